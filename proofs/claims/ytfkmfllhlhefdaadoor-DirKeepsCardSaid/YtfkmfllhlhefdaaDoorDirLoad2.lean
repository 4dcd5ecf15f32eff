/- Package dir's load, whole. -/
import Derived.Test.YtfkmfllhlhefdaaDoorDirLoad
namespace Go.Proofs.YtfkmfllhlhefdaaDoor
open Go.RowKit Go.Shelf
attribute [local go_sem] Oper.semAt_some

def NamesAt (W : World) (v : Value) (l : List Ent) : Prop := (v = .map none ∧ l = []) ∨ ∃ b n, v = .map (some b) ∧ MapN W b n l
def PathsAt (W : World) (v : Value) (l : List Ent) : Prop := (v = .map none ∧ l = []) ∨ ∃ b n, v = .map (some b) ∧ MapP W b n l
theorem NamesAt.mod {w w' : World} {v : Value} {l : List Ent} (h : NamesAt w v l) (hm : Mod (fun _ => False) w w') : NamesAt w' v l := by
  rcases h with h | ⟨b, n, h1, h2⟩
  · exact .inl h
  · exact .inr ⟨b, n, h1, h2.mod hm (fun x => x)⟩
theorem PathsAt.mod {w w' : World} {v : Value} {l : List Ent} (h : PathsAt w v l) (hm : Mod (fun _ => False) w w') : PathsAt w' v l := by
  rcases h with h | ⟨b, n, h1, h2⟩
  · exact .inl h
  · exact .inr ⟨b, n, h1, h2.mod hm (fun x => x)⟩
theorem NamesAt.look {w : World} {v : Value} {l : List Ent} (h : NamesAt w v l) (n : ByteArray) (hn : n.size ≤ maxLen) :
    (Instr.lookup 55 v (.string n) true).run Tryd.prog w = .ok (.tuple #[.agg #[.int .i64 (ent0 l n).slot, .int .u64 (ent0 l n).path, .string (ent0 l n).name], .bool (findE l n).isSome]) w := by
  rcases h with ⟨rfl, rfl⟩ | ⟨b, m, rfl, h⟩
  · exact lookN_nil w n hn
  · exact h.lookN n hn
theorem PathsAt.look {w : World} {v : Value} {l : List Ent} (h : PathsAt w v l) (p : Nat) (hp : p < 18446744073709551616) :
    (Instr.lookup 56 v (.int .u64 p) false).run Tryd.prog w = .ok (.bool (hasP l p)) w := by
  rcases h with ⟨rfl, rfl⟩ | ⟨b, m, rfl, h⟩
  · exact Maps.look_nil false lawP Tryd.underlying56 (zeroB w) (key_u64 Tryd.underlying22 hp)
  · exact h.lookP p hp
/-- what load hands back -/
structure LoadOut (w : World) (s : ByteArray) (mn mp sl : Value) (f : Nat) (W : World) : Prop where
  names : NamesAt W mn ((listS s).getD [])
  paths : PathsAt W mp ((listS s).getD [])
  list : EntsAt W (w.heap.size ≤ ·) sl ((listS s).getD [])
  free : (listS s).isSome = true → f = freeAt s
  mod : Mod (fun _ => False) w W

theorem NamesAt.made {W : World} {b : Nat} {A : World} (hb : A.heap.size = b) (hk : W.heap[b]? = some (.map #[] 0)) : NamesAt W (.map (some b)) [] := by
  subst hb
  refine .inr ⟨_, 0, rfl, ((MapF.made A Tryd.prog 9 encStr).same ?_).congr fun n => rfl⟩
  rw [hk, new_at]
theorem PathsAt.made {W : World} {b : Nat} {A : World} (hb : A.heap.size = b) (hk : W.heap[b]? = some (.map #[] 0)) : PathsAt W (.map (some b)) [] := by
  subst hb
  refine .inr ⟨_, 0, rfl, ((MapF.made A Tryd.prog 22 encU64).same ?_).congr fun n => rfl⟩
  rw [hk, new_at]
theorem listS_bad {s : ByteArray} (h : ¬ (s.size % 64 = 0 ∧ s.size ≤ 7168)) : listS s = none := by
  unfold listS sizeOk
  rw [if_neg]
  rw [decide_eq_true_eq]
  exact h
set_option maxRecDepth 100000 in
set_option maxHeartbeats 2000000 in
theorem load_bad (s : ByteArray) (w : World) (hb : s.size ≤ 1099511627776) (h : ¬ (s.size % 64 = 0 ∧ s.size ≤ 7168)) :
    Calls Tryd.prog 30 #[.string s] w fun e W => ∃ mn mp sl f, e = .returned (.tuple #[.agg #[mn, mp, sl, .int .i64 (f : Nat)], .bool (listS s).isSome]) ∧ LoadOut w s mn mp sl f W := by
  have hmm := @run_makeMap Tryd.prog
  have hn := listS_bad h
  have hq : (s.size : Int).tdiv 64 = ((s.size / 64 : Nat) : Int) := by simp
  by_cases hz : s.size % 64 = 0
  · have t1 : ((s.size : Int) % 64 != 0) = false := by simp; omega
    have t2 : decide (7168 < (s.size : Int)) = true := by simp; omega
    go_enter Tryd.func30, Tryd.ntmps30
    go_wp2
    refine bodyPost_ret (v := .tuple #[.agg #[.map (some (w.heap.size + 1 + 1)), .map (some (w.heap.size + 1 + 1 + 1)), .slice none 0 0, .int .i64 ((s.size : Int) / 64)], .bool false]) ?_ rfl ⟨_, _, _, s.size / 64, by rw [hn]; rfl, ?_⟩
    · simp [results, Tryd.f30, go_sem]
    · refine ⟨?_, ?_, ?_, fun h => (by rw [hn] at h; cases h), ?_⟩
      · rw [hn]
        exact NamesAt.made (A := (w.alloc (.cells #[] 0)).alloc (.cells #[] 0)) (by simp) (alloc_keep (alloc_keep (new_at' _ _ _ (by simp))))
      · rw [hn]
        exact PathsAt.made (A := ((w.alloc (.cells #[] 0)).alloc (.cells #[] 0)).alloc (.cells #[] 0)) (by simp) (alloc_keep (new_at' _ _ _ (by simp)))
      · rw [hn]
        exact RecsAt.nil _ _
      · exact ((((Mod.refl _ _).alloc _).alloc _).alloc _).alloc _ |>.alloc _
  · have t1 : ((s.size : Int) % 64 != 0) = true := by simp; omega
    go_enter Tryd.func30, Tryd.ntmps30
    go_wp2
    refine bodyPost_ret (v := .tuple #[.agg #[.map (some (w.heap.size + 1 + 1)), .map (some (w.heap.size + 1 + 1 + 1)), .slice none 0 0, .int .i64 ((s.size : Int) / 64)], .bool false]) ?_ rfl ⟨_, _, _, s.size / 64, by rw [hn]; rfl, ?_⟩
    · simp [results, Tryd.f30, go_sem]
    · refine ⟨?_, ?_, ?_, fun h => (by rw [hn] at h; cases h), ?_⟩
      · rw [hn]
        exact NamesAt.made (A := (w.alloc (.cells #[] 0)).alloc (.cells #[] 0)) (by simp) (alloc_keep (alloc_keep (new_at' _ _ _ (by simp))))
      · rw [hn]
        exact PathsAt.made (A := ((w.alloc (.cells #[] 0)).alloc (.cells #[] 0)).alloc (.cells #[] 0)) (by simp) (alloc_keep (new_at' _ _ _ (by simp)))
      · rw [hn]
        exact RecsAt.nil _ _
      · exact ((((Mod.refl _ _).alloc _).alloc _).alloc _).alloc _ |>.alloc _

theorem pre_at {s : ByteArray} {pre : List (Nat × ByteArray)} {x : Nat × ByteArray} (h : pre ++ [x] <+: rowsD s) : pre.length < s.size / 64 ∧ x = (pre.length, slotAt s pre.length) ∧ pre.map Prod.snd = (slotsL s).take pre.length := by
  have hl := h.length_le
  rw [List.length_append, List.length_singleton, rowsD_length] at hl
  have e2 : (rowsD s)[pre.length]? = some x := by
    obtain ⟨t, ht⟩ := h
    rw [← ht]
    simp
  refine ⟨by omega, ?_, ?_⟩
  · have e3 : (rowsD s)[pre.length]? = some (pre.length, slotAt s pre.length) := by
      rw [List.getElem?_eq_getElem (by rw [rowsD_length]; omega)]
      simp only [rowsD, List.getElem_map, List.getElem_range]
    rw [e3] at e2
    exact (Option.some.inj e2).symm
  · have hp : pre <+: rowsD s := (List.prefix_append pre [x]).trans h
    rw [List.prefix_iff_eq_take.1 hp, List.map_take, List.length_take]
    have : (rowsD s).map Prod.snd = slotsL s := by
      simp only [rowsD, slotsL, List.map_map]
      rfl
    rw [this, rowsD_length, Nat.min_eq_left (by omega)]
theorem rows_snd (s : ByteArray) : (rowsD s).map Prod.snd = slotsL s := by
  simp only [rowsD, slotsL, List.map_map]
  rfl
theorem body_go {w W Wn : World} {s : ByteArray} {pre : List (Nat × ByteArray)} {x : Nat × ByteArray} {Bl : Nat} {a : Act} (hi : LoadI w s pre W) (hB : Bl = w.heap.size + 6) (hnc : ∀ k, k = Bl ∨ k = Bl + 1 → ∃ ob, W.heap[k]? = some ob ∧ ob.isCells = false)
    (hk : ∀ k o, W.heap[k]? = some o → k ≠ w.heap.size + 4 → k ≠ w.heap.size + 2 → k ≠ w.heap.size + 3 → (∀ cs, o ≠ .cells cs 36 (0, 0)) → Wn.heap[k]? = W.heap[k]?) (hsz : W.heap.size ≤ Wn.heap.size) (hm : Mod (fun _ => False) w Wn)
    (tb : ∃ l v, goE ((pre ++ [x]).map Prod.snd) 0 [] = some l ∧ Wn.heap[w.heap.size + 4]? = some (.cells #[.map (some (w.heap.size + 2)), .map (some (w.heap.size + 3)), v, .int .i64 (freeOf ((pre ++ [x]).map Prod.snd) (s.size / 64))] 58 (0, 0)) ∧
      Wn.ownsRow w.heap.size 36 3 v l.length (flatE l) ∧ MapN Wn (w.heap.size + 2) l.length l ∧ MapP Wn (w.heap.size + 3) l.length l) :
    BodyPost (w.heap.size + 5) Bl (LoadI w s) (LoadX w) (pre ++ [x]) W .normal a Wn := by
  obtain ⟨u, hu⟩ := hi.bx
  have k5 := hk _ _ hu (by omega) (by omega) (by omega) (fun cs e => by injection e with _ e; cases e)
  refine ⟨k5, hsz, fun k hk2 => ?_, ⟨(hk _ _ hi.r1 (by omega) (by omega) (by omega) (fun cs e => by injection e with _ e; cases e)).trans hi.r1, (hk _ _ hi.r2 (by omega) (by omega) (by omega) (fun cs e => by injection e with _ e; cases e)).trans hi.r2, tb, ⟨u, k5.trans hu⟩, hm⟩⟩
  obtain ⟨ob, ho, hc⟩ := hnc k hk2
  exact hk k ob ho (by omega) (by omega) (by omega) (fun cs e => by rw [e] at hc; cases hc)
theorem body_stop {w W Wn : World} {s : ByteArray} {pre : List (Nat × ByteArray)} {x : Nat × ByteArray} {Bl : Nat} {a : Act} (hi : LoadI w s pre W) (hnc : ∀ k, k = Bl ∨ k = Bl + 1 → ∃ ob, W.heap[k]? = some ob ∧ ob.isCells = false)
    (hm : Mod (fun _ => False) W Wn) (hno : goE ((pre ++ [x]).map Prod.snd) 0 [] = none) : BodyPost (w.heap.size + 5) Bl (LoadI w s) (LoadX w) (pre ++ [x]) W .ret a Wn := by
  refine ⟨fun k hk2 => ?_, ⟨(hm.block _ (lt_of hi.r1) (fun x => x)).trans hi.r1, (hm.block _ (lt_of hi.r2) (fun x => x)).trans hi.r2, hno, hi.mod.trans hm⟩⟩
  obtain ⟨ob, ho, _⟩ := hnc k hk2
  exact hm.block k (lt_of ho) (fun x => x)
/-- the two maps' stores, in either order -/
theorem two_stores {W : World} {b1 b2 n1 n2 : Nat} {L : List Ent} (hN : MapN W b1 n1 L) (hP : MapP W b2 n2 L) (hne : b1 ≠ b2) (h1 : n1 < maxLen) (h2 : n2 < maxLen) (I p : Nat) (nm : ByteArray) (hp : p < 18446744073709551616) (hs : nm.size ≤ maxLen) (hh : hasN L nm = false) :
    ∃ Wa Wb, (Instr.mapUpdate 55 (.map (some b1)) (.string nm) (.agg #[.int .i64 I, .int .u64 p, .string nm])).run Tryd.prog W = .ok () Wa ∧ (Instr.mapUpdate 56 (.map (some b2)) (.int .u64 p) (.bool true)).run Tryd.prog Wa = .ok () Wb ∧
      Mod (fun k => k = b1 ∨ k = b2) W Wa ∧ MapN Wb b1 (n1 + 1) (L ++ [⟨I, p, nm⟩]) ∧ MapP Wb b2 (n2 + 1) (L ++ [⟨I, p, nm⟩]) ∧ Mod (fun k => k = b1 ∨ k = b2) W Wb := by
  have kN := key_str Tryd.underlying9 hs
  have kP := key_u64 Tryd.underlying22 hp
  have cN : ∀ y, fN (L ++ [⟨I, p, nm⟩]) y = if y = nm then some (.agg #[.int .i64 I, .int .u64 p, .string nm]) else fN L y := by
    intro y
    unfold fN
    rw [find_snoc (e := ⟨I, p, nm⟩) hh]
    split <;> rfl
  have cP : ∀ y, fP (L ++ [⟨I, p, nm⟩]) y = if y = p then some (.bool true) else fP L y := by
    intro y
    unfold fP
    rw [hasP_snoc]
    by_cases hy : y = p
    · simp [hy]
    · simp [hy]
  obtain ⟨Wa, ra, Na, ma⟩ := MapF.store hN encStr_inj lawN Tryd.underlying55 h1 (v := .agg #[.int .i64 I, .int .u64 p, .string nm]) kN
  obtain ⟨Wb, rb, Pb, mb⟩ := MapF.store (hP.mod ma (fun h => hne h.symm)) encU64_inj lawP Tryd.underlying56 h2 (v := .bool true) kP
  exact ⟨Wa, Wb, ra, rb, ma.mono fun k _ h => Or.inl h, (Na.mod mb (fun h => hne h)).congr cN, Pb.congr cP, (ma.mono fun k _ h => Or.inl h).trans (mb.mono fun k _ h => Or.inr h)⟩
theorem row_base {A : World} {B size n : Nat} {e : TypeId} {v : Value} {xs : List Value} (h : A.ownsRow B e size v n xs) : ∀ k, v.ownBlock = some k → B ≤ k := by
  intro k hk
  rcases h.2 with ⟨rfl, _⟩ | ⟨g, cap, cur, rfl, hb, _⟩
  · simp [Value.ownBlock] at hk
  · have : g = k := by simpa [Value.ownBlock] using hk
    omega
set_option maxRecDepth 100000 in
set_option maxHeartbeats 2000000 in
theorem load_ok (s : ByteArray) (w : World) (hb : s.size % 64 = 0 ∧ s.size ≤ 7168) (hT : Tabs w) :
    Calls Tryd.prog 30 #[.string s] w fun e W => ∃ mn mp sl f, e = .returned (.tuple #[.agg #[mn, mp, sl, .int .i64 (f : Nat)], .bool (listS s).isSome]) ∧ LoadOut w s mn mp sl f W := by
  obtain ⟨i0, hi0, hz0, hz1, hz2⟩ := info_parts info_entry
  have hmm := @run_makeMap Tryd.prog
  refine (callsIn_wide (n := 6)).1 ?_
  refine callsIn_of_wp_marks Tryd.func30 rfl trivial ?_ rfl
  simp only [Tryd.ntmps30, List.size_toArray, List.length_cons, List.length_nil, Nat.reduceAdd, Nat.reduceSub, Array.replicate_succ, Array.replicate_zero, List.push_toArray, List.append_toArray, List.nil_append, List.cons_append]
  have hq : (s.size : Int).tdiv 64 = ((s.size / 64 : Nat) : Int) := by simp
  have t1 : ((s.size : Int) % 64 != 0) = false := by simp; omega
  have t2 : decide (7168 < (s.size : Int)) = false := by simp; omega
  gi_wp2_with (refine ⟨trivial, ?_⟩; gi_at_call 39; refine (callsIn_wide.2 (slots_any _ _)).mono ?_; rintro e w' ⟨rfl, rfl⟩)
  obtain ⟨W0, hW0⟩ : ∃ W0, ((((((w.alloc (.cells #[.map none, .map none, .slice none 0 0, .int .i64 0] 58)).alloc (.cells #[.bool false] 4)).alloc (.map #[] 0)).alloc (.map #[] 0)).alloc (.cells #[.map (some (w.heap.size + 1 + 1)), .map (some (w.heap.size + 1 + 1 + 1)), .slice none 0 0, .int .i64 ((s.size : Int) / 64)] 58)).alloc (.cells #[.string s] 9)) = W0 := ⟨_, rfl⟩
  have hsz : W0.heap.size = w.heap.size + 6 := by subst hW0; simp
  have hb1 : W0.heap[w.heap.size]? = some tabZ := by subst hW0; exact alloc_keep (alloc_keep (alloc_keep (alloc_keep (alloc_keep (new_at _ _)))))
  have hb2 : W0.heap[w.heap.size + 1]? = some boolF := by subst hW0; exact alloc_keep (alloc_keep (alloc_keep (alloc_keep (new_at' _ _ _ (by simp)))))
  have hb3 : W0.heap[w.heap.size + 2]? = some (.map #[] 0) := by subst hW0; exact alloc_keep (alloc_keep (alloc_keep (new_at' _ _ _ (by simp))))
  have hb4 : W0.heap[w.heap.size + 3]? = some (.map #[] 0) := by subst hW0; exact alloc_keep (alloc_keep (new_at' _ _ _ (by simp)))
  have hb5 : W0.heap[w.heap.size + 4]? = some (.cells #[.map (some (w.heap.size + 2)), .map (some (w.heap.size + 3)), .slice none 0 0, .int .i64 ((s.size / 64 : Nat) : Int)] 58 (0, 0)) := by subst hW0; exact alloc_keep (new_at' _ _ _ (by simp))
  have hb6 : W0.heap[w.heap.size + 5]? = some (.cells #[.string s] 9 (0, 0)) := by subst hW0; exact new_at' _ _ _ (by simp)
  have hm0 : Mod (fun _ => False) w W0 := by subst hW0; exact ((((((Mod.refl _ w).alloc _).alloc _).alloc _).alloc _).alloc _).alloc _
  have hN0 : MapN W0 (w.heap.size + 2) 0 [] := by
    have := (MapF.made ((w.alloc (.cells #[] 0)).alloc (.cells #[] 0)) Tryd.prog 9 encStr).same (w' := W0) (by rw [new_at]; simp; exact hb3)
    rw [show ((w.alloc (.cells #[] 0)).alloc (.cells #[] 0)).heap.size = w.heap.size + 2 from by simp] at this
    exact this.congr fun n => rfl
  have hP0 : MapP W0 (w.heap.size + 3) 0 [] := by
    have := (MapF.made (((w.alloc (.cells #[] 0)).alloc (.cells #[] 0)).alloc (.cells #[] 0)) Tryd.prog 22 encU64).same (w' := W0) (by rw [new_at]; simp; exact hb4)
    rw [show (((w.alloc (.cells #[] 0)).alloc (.cells #[] 0)).alloc (.cells #[] 0)).heap.size = w.heap.size + 3 from by simp] at this
    exact this.congr fun n => rfl
  have hI0 : LoadI w s [] W0 := ⟨hb1, hb2, ⟨[], _, rfl, hb5, World.ownsRow_nil _ _ _ _, hN0, hP0⟩, ⟨_, hb6⟩, hm0⟩
  rw [hW0]
  clear hW0
  refine wpIn_rangeW (n := 6) (Bx := w.heap.size + 5) (gf := 45) (lb := #[.pointer (some ⟨w.heap.size + 5, 0, none⟩)]) (by decide) rfl (enters_of Tryd.func45 (by kernel_rfl) rfl) (slots1_ok (6 - 1) (w.heap.size + 5) s (by omega)) (fun _ => rfl) (by omega)
    (LoadI w s) (LoadX w) (loadI_holds w s W0.heap.size (by omega)) (loadX_holds w W0.heap.size (by omega)) (fun U hm => (hm.block _ (lt_of hb6) (fun x => x)).trans hb6) hI0
    (fun x a' W => a' = { tmps := #[.string s, undef, .pointer (some ⟨w.heap.size, 0, none⟩), .pointer (some ⟨w.heap.size + 1, 0, none⟩), .pointer (some ⟨w.heap.size + 1 + 1 + 1 + 1, 0, none⟩), .int .i64 (x).1, .string (x).2, undef, undef, undef, undef, undef, undef, .map (some (w.heap.size + 1 + 1)), .map (some (w.heap.size + 1 + 1 + 1)), .string s, .int .i64 s.size, .int .i64 ((s.size : Int) / 64), .agg #[.map (some (w.heap.size + 1 + 1)), .map (some (w.heap.size + 1 + 1 + 1)), .slice none 0 0, .int .i64 ((s.size : Int) / 64)], .string s, .int .i64 s.size, .int .i64 ((s.size : Int) % 64), .bool false, .bool false, .string s, .int .i64 s.size, .bool false, .bool false, undef, .string s, .func (.func 45) #[] #[.pointer (some ⟨w.heap.size + 1 + 1 + 1 + 1 + 1, 0, none⟩)], .int .i64 (x).1, .string (x).2, undef, undef, undef, undef, undef, undef, undef, undef, undef, undef, undef, undef, undef, undef, undef, undef, undef, undef, undef, undef, undef, undef, undef, undef, undef, undef, undef, undef, undef, undef, undef, undef, undef, undef, undef, undef, undef, undef, undef, undef, undef, undef, undef, undef, undef, undef, undef, undef, undef, undef, undef], defers := [] }) ?hA1 ?round ?body ?done ?stop
  case hA1 => intro x a' A R R' h hR; exact h
  case round =>
    rintro l pre ⟨i, x⟩ W K hi hsp hnc hK
    simp only [encsD]
    gi_wp2
    exact hK _ _ (Mod.refl _ _) rfl
  case body =>
    rintro l pre ⟨i, x⟩ a' W hi hsp rfl hnc
    obtain ⟨hlt, hxe, hsl⟩ := pre_at hsp
    obtain ⟨rfl, hxx⟩ := Prod.mk.inj hxe
    have hx64 : x.size = 64 := by rw [hxx]; exact slotAt_size hlt
    clear hxx hxe
    obtain ⟨L, v, hgo, hv, hrow, hN, hP⟩ := hi.tb
    have hpl : (pre.map Prod.snd).length = pre.length := List.length_map ..
    have hLl := goE_len _ _ hgo
    rw [hpl, List.length_nil, Nat.zero_add] at hLl
    have hfl := freeOf_le (xs := pre.map Prod.snd) (n := s.size / 64) (by rw [hpl]; omega)
    have hfs := freeOf_snoc (xs := pre.map Prod.snd) (x := x) (n := s.size / 64) (by rw [hpl]; omega)
    have hsn := goE_snoc (x := x) hgo
    rw [hpl] at hfs hsn
    have hmap : (pre ++ [(pre.length, x)]).map Prod.snd = pre.map Prod.snd ++ [x] := by rw [List.map_append]; rfl
    obtain ⟨I, hI⟩ : ∃ I, pre.length = I := ⟨_, rfl⟩
    rw [hI] at hLl hfs hsn hmap hpl hlt ⊢
    generalize freeOf (pre.map Prod.snd) (s.size / 64) = f at *
    have hTW := hT.mod hi.mod
    have b0 : W.cell? ⟨w.heap.size + 1 + 1 + 1 + 1, 0, none⟩ = some (.map (some (w.heap.size + 2))) := (cell_of hv 0).trans rfl
    have b1 : W.cell? ⟨w.heap.size + 1 + 1 + 1 + 1, 1, none⟩ = some (.map (some (w.heap.size + 3))) := (cell_of hv 1).trans rfl
    have b2 : W.cell? ⟨w.heap.size + 1 + 1 + 1 + 1, 2, none⟩ = some v := (cell_of hv 2).trans rfl
    have b3 : W.cell? ⟨w.heap.size + 1 + 1 + 1 + 1, 3, none⟩ = some (.int .i64 f) := (cell_of hv 3).trans rfl
    have hbq := toList_beq x freeB
    have hFr := free_any W
    by_cases hf : x = freeB
    · have hbq2 : (x.toList == freeB.toList) = true := by rw [hbq, hf]; simp
      clear hbq
      rw [stepE, if_pos hf] at hsn
      rw [if_pos hf] at hfs
      clear hf
      generalize freeB = fb at *
      have hmn : min (f : Int) (I : Int) = ((min f I : Nat) : Int) := by omega
      generalize min f I = mi at *
      gi_wp2_with (refine ⟨trivial, ?_⟩; gi_at_call 35; refine (callsIn_wide.2 hFr).mono ?_; rintro e w1 ⟨rfl, m1⟩; have c3 : w1.cell? ⟨w.heap.size + 1 + 1 + 1 + 1, 3, none⟩ = some (.int .i64 f) := keepR m1 b3; have f3 : w1.frozen? ⟨w.heap.size + 1 + 1 + 1 + 1, 3, none⟩ = false := free_of ((m1.block _ (lt_of hv) (fun x => x)).trans hv) 3)
      have k4 := (m1.block _ (lt_of hv) (fun x => x)).trans hv
      refine body_go hi hsz hnc (fun k o ho hk _ _ _ => ?_) ?_ ?_ ⟨L, v, by rw [hmap]; exact hsn, ?_, ?_, ?_, ?_⟩
      · rw [Below.heap_setCell _ _ _ _ hk]
        exact m1.block k (lt_of ho) (fun x => x)
      · exact Nat.le_trans m1.size (by simp)
      · exact (hi.mod.trans m1).setCell (p := ⟨w.heap.size + 4, 3, none⟩) (Or.inr (by show w.heap.size ≤ w.heap.size + 4; omega)) _
      · rw [hmap, hfs]
        exact heap_set k4 3 _
      · exact owns_nearR ((Mod.refl (fun k => k = w.heap.size + 4) w1).setCell (p := ⟨w.heap.size + 4, 3, none⟩) (Or.inl rfl) _) (owns_nearR m1 hrow (fun k cs hx => hx.elim)) (fun k cs hx hk => by
          subst hx
          rw [k4] at hk
          injection hk with hk
          injection hk with _ e
          cases e)
      · exact (hN.mod m1 (fun x => x)).same (Below.heap_setCell _ _ _ _ (by show w.heap.size + 2 ≠ w.heap.size + 4; omega))
      · exact (hP.mod m1 (fun x => x)).same (Below.heap_setCell _ _ _ _ (by show w.heap.size + 3 ≠ w.heap.size + 4; omega))
    · have hbq2 : (x.toList == freeB.toList) = false := by
        rw [hbq, decide_eq_false_iff_not]
        exact fun e => hf (ByteArray.ext (Array.ext' e))
      clear hbq
      rw [stepE, if_neg hf] at hsn
      rw [if_neg hf] at hfs
      clear hf
      have hRd := fun U => read_any x U hx64
      have hnz := readN_size x
      have hpz := readP_lt x
      obtain ⟨fb, hfb⟩ : ∃ fb, freeB = fb := ⟨_, rfl⟩
      rw [hfb] at hFr hbq2
      clear hfb
      generalize readP x = p at *
      generalize readN x = nm at *
      generalize readOk x = ok at *
      have r0 : W.cell? ⟨w.heap.size, 0, none⟩ = some (.map none) := (cell_of hi.r1 0).trans rfl
      have r1 : W.cell? ⟨w.heap.size, 1, none⟩ = some (.map none) := (cell_of hi.r1 1).trans rfl
      have r2 : W.cell? ⟨w.heap.size, 2, none⟩ = some (.slice none 0 0) := (cell_of hi.r1 2).trans rfl
      have r3 : W.cell? ⟨w.heap.size, 3, none⟩ = some (.int .i64 0) := (cell_of hi.r1 3).trans rfl
      have r4 : W.cell? ⟨w.heap.size + 1, 0, none⟩ = some (.bool false) := (cell_of hi.r2 0).trans rfl
      gi_wp2_with (refine ⟨trivial, ?_⟩; gi_at_call 35; refine (callsIn_wide.2 hFr).mono ?_; rintro e w1 ⟨rfl, m1⟩)
      have hT1 := hTW.mod m1
      refine ⟨trivial, ?_⟩
      refine (callsIn_wide.2 (hRd _ hT1)).mono ?_
      rintro e w2 ⟨rfl, m2⟩
      have m12 := m1.trans m2
      have hLn := (hN.mod m12 (fun x => x)).lookN nm (by unfold maxLen; omega)
      have hhn : hasN L nm = (findE L nm).isSome := has_find
      generalize (ent0 L nm).slot = e0s at *
      generalize (ent0 L nm).path = e0p at *
      generalize (ent0 L nm).name = e0n at *
      rw [← hhn] at hLn
      clear hhn
      obtain ⟨W3, hW3⟩ : ∃ W3, w2.alloc (.cells #[.int .i64 e0s, .int .u64 e0p, .string e0n] 36) = W3 := ⟨_, rfl⟩
      have m3 : Mod (fun _ => False) w2 W3 := by subst hW3; exact (Mod.refl _ _).alloc _
      have m123 := m12.trans m3
      have hLp := (hP.mod m123 (fun x => x)).lookP p hpz
      have a0 := keepR m12 b0
      have b0 := keepR m123 b0
      have b1 := keepR m123 b1
      have b2 := keepR m123 b2
      have hvk := (m123.block _ (lt_of hv) (fun x => x)).trans hv
      have f2 : W3.frozen? ⟨w.heap.size + 1 + 1 + 1 + 1, 2, none⟩ = false := free_of hvk 2
      have hr1k := (m123.block _ (lt_of hi.r1) (fun x => x)).trans hi.r1
      have hr2k := (m123.block _ (lt_of hi.r2) (fun x => x)).trans hi.r2
      have r0 := keepR m123 r0
      have r1 := keepR m123 r1
      have r2 := keepR m123 r2
      have r3 := keepR m123 r3
      have r4 := keepR m123 r4
      have rf0 : W3.frozen? ⟨w.heap.size, 0, none⟩ = false := free_of hr1k 0
      have rf1 : W3.frozen? ⟨w.heap.size, 1, none⟩ = false := free_of hr1k 1
      have rf2 : W3.frozen? ⟨w.heap.size, 2, none⟩ = false := free_of hr1k 2
      have rf3 : W3.frozen? ⟨w.heap.size, 3, none⟩ = false := free_of hr1k 3
      have rf4 : W3.frozen? ⟨w.heap.size + 1, 0, none⟩ = false := free_of hr2k 0
      have rs0 : W3.setCell ⟨w.heap.size, 0, none⟩ (.map none) = W3 := setCell_idR hr1k rfl
      have rs1 : W3.setCell ⟨w.heap.size, 1, none⟩ (.map none) = W3 := setCell_idR hr1k rfl
      have rs2 : W3.setCell ⟨w.heap.size, 2, none⟩ (.slice none 0 0) = W3 := setCell_idR hr1k rfl
      have rs3 : W3.setCell ⟨w.heap.size, 3, none⟩ (.int .i64 0) = W3 := setCell_idR hr1k rfl
      have rs4 : W3.setCell ⟨w.heap.size + 1, 0, none⟩ (.bool false) = W3 := setCell_idR hr2k rfl
      have HV := Lib.hid hvk
      have H1 := Lib.hid hr1k
      have H2 := Lib.hid hr2k
      clear hvk hr1k hr2k hv hFr hRd hTW hT1 b3 hbq2
      cases hok : ok with
      | false =>
        have hsn : goE (pre.map Prod.snd ++ [x]) 0 [] = none := by rw [hsn, hok]; simp
        gi_wp2
        refine body_stop hi hnc m123 ?_
        rw [hmap]
        exact hsn
      | true =>
        cases hnm : hasN L nm with
        | true =>
          rw [hnm] at hLn
          have hsn : goE (pre.map Prod.snd ++ [x]) 0 [] = none := by rw [hsn, hnm]; simp
          gi_wp2
          refine body_stop hi hnc m123 ?_
          rw [hmap]
          exact hsn
        | false =>
          rw [hnm] at hLn
          cases hpp : hasP L p with
          | true =>
            rw [hpp] at hLp
            have hsn : goE (pre.map Prod.snd ++ [x]) 0 [] = none := by rw [hsn, hpp]; simp
            gi_wp2
            refine body_stop hi hnc m123 ?_
            rw [hmap]
            exact hsn
          | false =>
            rw [hpp] at hLp
            rw [if_pos ⟨hok, hnm, hpp⟩] at hsn
            clear hok
            gi_wp2
            obtain ⟨W4, hW4⟩ : ∃ W4, W3.alloc (.cells #[.int .i64 I, .int .u64 p, .string nm] 36) = W4 := ⟨_, rfl⟩
            have m4 : Mod (fun _ => False) W3 W4 := by subst hW4; exact (Mod.refl _ _).alloc _
            have hE : W4.heap[W3.heap.size]? = some (.cells #[.int .i64 I, .int .u64 p, .string nm] 36 (0, 0)) := by subst hW4; exact new_at _ _
            have m5 : Mod (fun _ => False) W W4.drew := ((m123.trans m4).drew)
            obtain ⟨Wa, Wb, ra, rb, ma, hNb, hPb, mb⟩ := two_stores (hN.mod m5 (fun x => x)) (hP.mod m5 (fun x => x)) (by omega) (by unfold maxLen; omega) (by unfold maxLen; omega) I p nm hpz (by unfold maxLen; omega) hnm
            have d0 := keepR (m4.drew) b0
            have d1 := keepR (m4.drew) b1
            have d2 := keepR (m4.drew) b2
            have e0 : W4.drew.cell? ⟨W3.heap.size, 0, none⟩ = some (.int .i64 I) := (cell_of hE 0).trans rfl
            have e1 : W4.drew.cell? ⟨W3.heap.size, 1, none⟩ = some (.int .u64 p) := (cell_of hE 1).trans rfl
            have e2 : W4.drew.cell? ⟨W3.heap.size, 2, none⟩ = some (.string nm) := (cell_of hE 2).trans rfl
            rw [hW4]
            refine wpIn_region_held_round (S := fun w' => w'.cell? ⟨w.heap.size + 1 + 1 + 1 + 1, 0, none⟩ = some (.map (some (w.heap.size + 2))) ∧ w'.cell? ⟨w.heap.size + 1 + 1 + 1 + 1, 1, none⟩ = some (.map (some (w.heap.size + 3))) ∧ w'.cell? ⟨W3.heap.size, 0, none⟩ = some (.int .i64 I) ∧ w'.cell? ⟨W3.heap.size, 1, none⟩ = some (.int .u64 p) ∧ w'.cell? ⟨W3.heap.size, 2, none⟩ = some (.string nm)) (by kernel_rfl) (by kernel_rfl) ⟨d0, d1, e0, e1, e2⟩ (fun hHeld => ?_)
            refine wpAnyH_take (i := 0) (v := ?_) rfl (by kernel_rfl) (by kernel_rfl) (by kernel_rfl) (fun _ _ _ h => h) (Or.inl ⟨by rfl, ?_⟩) (by assumption) ?_
            rotate_left
            · (intro w hSw; (try dsimp only at hSw); go_simp)
              all_goals with_reducible rfl
            try simp only [Act.put]
            refine wpAnyH_take (i := 1) (v := ?_) rfl (by kernel_rfl) (by kernel_rfl) (by kernel_rfl) (fun _ _ _ h => h) (Or.inl ⟨by rfl, ?_⟩) (by assumption) ?_
            rotate_left
            · (intro w hSw; (try dsimp only at hSw); go_simp)
              all_goals with_reducible rfl
            try simp only [Act.put]
            refine wpAnyH_take (i := 2) (v := ?_) rfl (by kernel_rfl) (by kernel_rfl) (by kernel_rfl) (fun _ _ _ h => h) (Or.inl ⟨by rfl, ?_⟩) (by assumption) ?_
            rotate_left
            · (intro w hSw; (try dsimp only at hSw); go_simp)
              all_goals with_reducible rfl
            try simp only [Act.put]
            refine wpAnyH_take (i := 3) (v := ?_) rfl (by kernel_rfl) (by kernel_rfl) (by kernel_rfl) (fun _ _ _ h => h) (Or.inl ⟨by rfl, ?_⟩) (by assumption) ?_
            rotate_left
            · (intro w hSw; (try dsimp only at hSw); go_simp)
              all_goals with_reducible rfl
            try simp only [Act.put]
            refine wpAnyH_take (i := 4) (v := ?_) rfl (by kernel_rfl) (by kernel_rfl) (by kernel_rfl) (fun _ _ _ h => h) (Or.inl ⟨by rfl, ?_⟩) (by assumption) ?_
            rotate_left
            · (intro w hSw; (try dsimp only at hSw); go_simp)
              all_goals with_reducible rfl
            try simp only [Act.put]
            refine wpAnyH_take (i := 5) (v := ?_) rfl (by kernel_rfl) (by kernel_rfl) (by kernel_rfl) (fun _ _ _ h => h) (Or.inl ⟨by rfl, ?_⟩) (by assumption) ?_
            rotate_left
            · (intro w hSw; (try dsimp only at hSw); go_simp)
              all_goals with_reducible rfl
            try simp only [Act.put]
            refine wpAnyH_take (i := 6) (v := ?_) rfl (by kernel_rfl) (by kernel_rfl) (by kernel_rfl) (fun _ _ _ h => h) (Or.inl ⟨by rfl, ?_⟩) (by assumption) ?_
            rotate_left
            · (intro w hSw; (try dsimp only at hSw); go_simp)
              all_goals with_reducible rfl
            try simp only [Act.put]
            refine wpAnyH_ready (rs := [7]) (by kernel_rfl) (by simp) ?_
            refine AllReadyH.cons rfl (fun K hK => ?_) AllReadyH.nil
            go_simp
            have hWs : w.heap.size + 5 < W.heap.size := by
              obtain ⟨u, hu⟩ := hi.bx
              exact lt_of hu
            have hW3 : w.heap.size + 5 < W3.heap.size := Nat.lt_of_lt_of_le hWs m123.size
            have kAt : ∀ U, Mod (fun k => k = w.heap.size + 2 ∨ k = w.heap.size + 3) W4.drew U → U.heap[w.heap.size + 4]? = W3.heap[w.heap.size + 4]? := fun U hU =>
              (hU.block _ (Nat.lt_of_lt_of_le (by omega) m4.drew.size) (by omega)).trans (m4.drew.block _ (by omega) (fun x => x))
            have kE : ∀ U, Mod (fun k => k = w.heap.size + 2 ∨ k = w.heap.size + 3) W4.drew U → U.heap[W3.heap.size]? = some (.cells #[.int .i64 I, .int .u64 p, .string nm] 36 (0, 0)) := fun U hU =>
              (hU.block _ (lt_of (w := W4) hE) (by omega)).trans hE
            refine hK.out _ _ ?_ (fun hHeld2 => ?_)
            · have h4 := (kAt _ ma).trans HV.out
              exact ⟨cell_of h4 0, cell_of h4 1, cell_of (kE _ ma) 0, cell_of (kE _ ma) 1, cell_of (kE _ ma) 2⟩
            clear hK K
            refine wpAnyH_ready (rs := [8]) (by kernel_rfl) (by simp) ?_
            refine AllReadyH.cons rfl (fun K hK => ?_) AllReadyH.nil
            go_simp
            have h4 := (kAt _ mb).trans HV.out
            have hEb := kE _ mb
            refine hK.out _ _ ⟨cell_of h4 0, cell_of h4 1, cell_of hEb 0, cell_of hEb 1, cell_of hEb 2⟩ (fun hHeld3 => ?_)
            clear hK K
            refine wpAnyH_done (by kernel_rfl) ?_ _
            refine onlyN_out ?_
            have mWb : Mod (fun k => k = w.heap.size + 2 ∨ k = w.heap.size + 3) W Wb := (m5.mono (fun k _ h => h.elim)).trans mb
            have hrowb : Wb.ownsRow w.heap.size 36 3 v L.length (flatE L) := owns_nearR mWb hrow (fun k cs hx hk => by
              rcases hx with rfl | rfl
              · obtain ⟨es, c, ho⟩ := hN.obj
                rw [ho] at hk; cases hk
              · obtain ⟨es, c, ho⟩ := hP.obj
                rw [ho] at hk; cases hk)
            have g0 : Wb.cell? ⟨W3.heap.size, 0, none⟩ = some (.int .i64 I) := cell_of hEb 0
            have g1 : Wb.cell? ⟨W3.heap.size, 1, none⟩ = some (.int .u64 p) := cell_of hEb 1
            have g2 : Wb.cell? ⟨W3.heap.size, 2, none⟩ = some (.string nm) := cell_of hEb 2
            have t2c : Wb.cell? ⟨w.heap.size + 1 + 1 + 1 + 1, 2, none⟩ = some v := cell_of h4 2
            have hnews : ∀ j u, (flatE [⟨I, p, nm⟩])[j]? = some u → (Wb.alloc (.cells #[.int .i64 I, .int .u64 p, .string nm] 36)).cell? ((⟨Wb.heap.size, 0, none⟩ : Addr).add j) = some u := by
              intro j u hj
              rw [show (⟨Wb.heap.size, 0, none⟩ : Addr).add j = ⟨Wb.heap.size, 0 + j, none⟩ from by unfold Addr.add; split <;> simp_all]
              rw [Nat.zero_add, cell_of (new_at Wb _)]
              simpa [flatR, Ent.cells] using hj
            have hWbs : W.heap.size ≤ Wb.heap.size := mWb.size
            clear hHeld hHeld2 hHeld3 kAt kE ra rb ma d0 d1 d2 e0 e1 e2 hW4 hE
            gi_wp2_with (gi_at_builtin; (refine wpListIn_append_own_at _ rfl (.tmp 78) (.tmp 80) 28 rfl w.heap.size 36 i0 (.agg #[.int .i64 0, .int .u64 0, .string { data := #[] }]) 3 32 Tryd.underlying28 hi0 hz0 hz1 hz2 rfl (by decide) v L.length (flatE L) rfl (hrowb.alloc _) ⟨Wb.heap.size, 0, none⟩ 1 1 (flatE [⟨I, p, nm⟩]) rfl (by rw [flatE_length]; rfl) hnews (flatR_one ent_one _) (by unfold maxLen; omega) (by omega) (by rw [World.size_alloc]; omega) ?_); intro v' w5 hown' hgrow _ hblk; obtain ⟨g', cap', rfl⟩ := ownsRow_succ hown'; have h5k : w5.heap[w.heap.size + 4]? = _ := ((hgrow.block _ (by rw [World.size_alloc]; omega) (row_neR hrowb h4 (fun cs e => by injection e with _ e; cases e))).trans (Below.heap_alloc _ _ _ (by omega))).trans h4; have h5f : w5.frozen? ⟨w.heap.size + 1 + 1 + 1 + 1, 2, none⟩ = false := free_of h5k 2; have h5c : w5.cell? ⟨w.heap.size + 1 + 1 + 1 + 1, 2, none⟩ = some v := cell_of h5k 2)
            obtain ⟨Wn, hWn⟩ : ∃ Wn, w5.setCell ⟨w.heap.size + 1 + 1 + 1 + 1, 2, none⟩ (.slice (some ⟨g', 0, none⟩) (L.length + 1) cap') = Wn := ⟨_, rfl⟩
            have hkeep : ∀ k o, Wb.heap[k]? = some o → (∀ cs, o ≠ .cells cs 36 (0, 0)) → k ≠ w.heap.size + 4 → Wn.heap[k]? = Wb.heap[k]? := fun k o ho hne hk => by
              have hl := lt_of ho
              rw [← hWn, Below.heap_setCell _ _ _ _ hk, hgrow.block k (by rw [World.size_alloc]; omega) (row_neR hrowb ho hne), Below.heap_alloc _ _ _ hl]
            have hn4 : Wn.heap[w.heap.size + 4]? = some (.cells #[.map (some (w.heap.size + 2)), .map (some (w.heap.size + 3)), .slice (some ⟨g', 0, none⟩) (L.length + 1) cap', .int .i64 f] 58 (0, 0)) := by
              rw [← hWn]; exact heap_set h5k 2 _
            have mset : Mod (fun k => k = w.heap.size + 4) w5 Wn := by rw [← hWn]; exact (Mod.refl (fun k => k = w.heap.size + 4) w5).setCell (p := ⟨w.heap.size + 4, 2, none⟩) (Or.inl rfl) _
            have hsz5 := hgrow.size
            rw [World.size_alloc] at hsz5
            rw [hWn]
            refine body_go hi hsz hnc (fun k o ho hk hk2 hk3 hne => ?_) ?_ ?_ ⟨L ++ [⟨I, p, nm⟩], .slice (some ⟨g', 0, none⟩) (L.length + 1) cap', by rw [hmap]; exact hsn, ?_, ?_, ?_, ?_⟩
            · have := mWb.block k (lt_of ho) (by omega)
              rw [hkeep k o (this.trans ho) hne hk, this]
            · have := mset.size
              omega
            · refine ((((hi.mod.trans' mWb (fun k hk hx => by omega)).alloc _).thenGrown hgrow (row_base hrow)).trans' mset (fun k hk hx => by omega))
            · rw [hmap, hfs]
              exact hn4
            · rw [List.length_append, List.length_singleton, show flatE (L ++ [⟨I, p, nm⟩]) = flatE L ++ flatE [⟨I, p, nm⟩] from flatR_append ..]
              refine owns_nearR mset hown' (fun k cs hx hk => ?_)
              subst hx
              rw [h5k] at hk
              injection hk with hk
              injection hk with _ e
              cases e
            · rw [List.length_append, List.length_singleton]
              obtain ⟨es, c, ho⟩ := hNb.obj
              exact hNb.same (hkeep _ _ ho (fun cs e => by cases e) (by omega))
            · rw [List.length_append, List.length_singleton]
              obtain ⟨es, c, ho⟩ := hPb.obj
              exact hPb.same (hkeep _ _ ho (fun cs e => by cases e) (by omega))
  case done =>
    rintro xs W rfl hi hD
    obtain ⟨L, v, hgo, hv, hrow, hN, hP⟩ := hi.tb
    rw [rows_snd] at hgo hv
    rw [freeOf_all] at hv
    have hls : listS s = some L := by
      unfold listS sizeOk
      rw [if_pos (decide_eq_true hb)]
      exact hgo
    obtain ⟨ao, nn, cc, rfl⟩ : ∃ ao nn cc, v = .slice ao nn cc := by
      rcases hrow.2 with ⟨h, _⟩ | ⟨g, cap, cur, h, _⟩
      · exact ⟨_, _, _, h⟩
      · exact ⟨_, _, _, h⟩
    have b0 : W.cell? ⟨w.heap.size + 1 + 1 + 1 + 1, 0, none⟩ = some (.map (some (w.heap.size + 2))) := (cell_of hv 0).trans rfl
    have b1 : W.cell? ⟨w.heap.size + 1 + 1 + 1 + 1, 1, none⟩ = some (.map (some (w.heap.size + 3))) := (cell_of hv 1).trans rfl
    have b2 : W.cell? ⟨w.heap.size + 1 + 1 + 1 + 1, 2, none⟩ = some (.slice ao nn cc) := (cell_of hv 2).trans rfl
    have b3 : W.cell? ⟨w.heap.size + 1 + 1 + 1 + 1, 3, none⟩ = some (.int .i64 (freeAt s)) := (cell_of hv 3).trans rfl
    have r0 : W.cell? ⟨w.heap.size, 0, none⟩ = some (.map none) := (cell_of hi.r1 0).trans rfl
    have r1 : W.cell? ⟨w.heap.size, 1, none⟩ = some (.map none) := (cell_of hi.r1 1).trans rfl
    have r2 : W.cell? ⟨w.heap.size, 2, none⟩ = some (.slice none 0 0) := (cell_of hi.r1 2).trans rfl
    have r3 : W.cell? ⟨w.heap.size, 3, none⟩ = some (.int .i64 0) := (cell_of hi.r1 3).trans rfl
    have r4 : W.cell? ⟨w.heap.size + 1, 0, none⟩ = some (.bool false) := (cell_of hi.r2 0).trans rfl
    have rf0 : W.frozen? ⟨w.heap.size, 0, none⟩ = false := free_of hi.r1 0
    have rf1 : W.frozen? ⟨w.heap.size, 1, none⟩ = false := free_of hi.r1 1
    have rf2 : W.frozen? ⟨w.heap.size, 2, none⟩ = false := free_of hi.r1 2
    have rf3 : W.frozen? ⟨w.heap.size, 3, none⟩ = false := free_of hi.r1 3
    have rf4 : W.frozen? ⟨w.heap.size + 1, 0, none⟩ = false := free_of hi.r2 0
    obtain ⟨V, hV⟩ : ∃ V, ((((W.setCell ⟨w.heap.size, 0, none⟩ (.map (some (w.heap.size + 2)))).setCell ⟨w.heap.size, 1, none⟩ (.map (some (w.heap.size + 3)))).setCell ⟨w.heap.size, 2, none⟩ (.slice ao nn cc)).setCell ⟨w.heap.size, 3, none⟩ (.int .i64 (freeAt s))).setCell ⟨w.heap.size + 1, 0, none⟩ (.bool true) = V := ⟨_, rfl⟩
    have hVk : ∀ k, k ≠ w.heap.size → k ≠ w.heap.size + 1 → V.heap[k]? = W.heap[k]? := fun k h1 h2 => by
      rw [← hV, Below.heap_setCell _ _ _ _ h2, Below.heap_setCell _ _ _ _ h1, Below.heap_setCell _ _ _ _ h1, Below.heap_setCell _ _ _ _ h1, Below.heap_setCell _ _ _ _ h1]
    have v1 : V.heap[w.heap.size]? = some (.cells #[.map (some (w.heap.size + 2)), .map (some (w.heap.size + 3)), .slice ao nn cc, .int .i64 (freeAt s)] 58 (0, 0)) := by
      rw [← hV, Below.heap_setCell _ _ _ _ (by show w.heap.size ≠ w.heap.size + 1; omega)]
      exact heap_set (heap_set (heap_set (heap_set hi.r1 0 _) 1 _) 2 _) 3 _
    have v2 : V.heap[w.heap.size + 1]? = some (.cells #[.bool true] 4 (0, 0)) := by
      rw [← hV]
      refine heap_set (cs := #[.bool false]) ?_ 0 _
      rw [Below.heap_setCell _ _ _ _ (by show w.heap.size + 1 ≠ w.heap.size; omega), Below.heap_setCell _ _ _ _ (by show w.heap.size + 1 ≠ w.heap.size; omega), Below.heap_setCell _ _ _ _ (by show w.heap.size + 1 ≠ w.heap.size; omega), Below.heap_setCell _ _ _ _ (by show w.heap.size + 1 ≠ w.heap.size; omega)]
      exact hi.r2
    have vD := (hVk W0.heap.size (by omega) (by omega)).trans hD
    have vm : Mod (fun k => k = w.heap.size ∨ k = w.heap.size + 1) W V := by
      rw [← hV]
      exact (((((Mod.refl _ W).setCell (p := ⟨w.heap.size, 0, none⟩) (Or.inl (Or.inl rfl)) _).setCell (p := ⟨w.heap.size, 1, none⟩) (Or.inl (Or.inl rfl)) _).setCell (p := ⟨w.heap.size, 2, none⟩) (Or.inl (Or.inl rfl)) _).setCell (p := ⟨w.heap.size, 3, none⟩) (Or.inl (Or.inl rfl)) _).setCell (p := ⟨w.heap.size + 1, 0, none⟩) (Or.inl (Or.inr rfl)) _
    have vrow := owns_nearR vm hrow (fun k cs hx hk => by
      rcases hx with rfl | rfl
      · rw [hi.r1] at hk; injection hk with hk; injection hk with _ e; cases e
      · rw [hi.r2] at hk; injection hk with hk; injection hk with _ e; cases e)
    have vmod : Mod (fun _ => False) w V := hi.mod.trans' vm (fun k hk hx => by omega)
    have vN := hN.mod vm (by omega)
    have vP := hP.mod vm (by omega)
    generalize hfa : freeAt s = fa at *
    gi_wp2
    refine ⟨by simp, .inl ⟨_, _, rfl, run_takeDeferred vD, ?_⟩⟩
    have um := mod_putR (A := V) (k := W0.heap.size)
    have urow := fun o => ownsRow_putObj vrow o vD rfl
    have u1 := fun o => (World.putObj_heap_other (o := o) (w := V) (show w.heap.size ≠ W0.heap.size by omega)).trans v1
    have u2 := fun o => (World.putObj_heap_other (o := o) (w := V) (show w.heap.size + 1 ≠ W0.heap.size by omega)).trans v2
    refine ⟨.tuple #[.agg #[.map (some (w.heap.size + 2)), .map (some (w.heap.size + 3)), .slice ao nn cc, .int .i64 fa], .bool true], ?_, ?_⟩
    · have c0 := fun o => (cell_of (u1 o) 0)
      have c1 := fun o => (cell_of (u1 o) 1)
      have c2 := fun o => (cell_of (u1 o) 2)
      have c3 := fun o => (cell_of (u1 o) 3)
      have c4 := fun o => (cell_of (u2 o) 0)
      simp [results, Tryd.f30, go_sem, c0, c1, c2, c3, c4]
    · refine ⟨_, _, _, fa, by rw [hls]; rfl, ⟨?_, ?_, ?_, fun _ => hfa.symm, vmod.trans' (um _) (fun k hk hx => by omega)⟩⟩
      · rw [hls]
        exact .inr ⟨_, _, rfl, vN.same (World.putObj_heap_other (by omega))⟩
      · rw [hls]
        exact .inr ⟨_, _, rfl, vP.same (World.putObj_heap_other (by omega))⟩
      · rw [hls]
        exact OwnA.recs (by decide) ent_len (OwnA.of_owns (urow _))
  case stop =>
    rintro pre W hpre hx hD
    have hls : listS s = none := by
      unfold listS
      split
      · exact goE_prefix (by rw [← rows_snd]; exact hpre.map _) hx.no
      · rfl
    refine ⟨by simp, .inl ⟨_, _, rfl, run_takeDeferred hD, ?_⟩⟩
    have um := mod_putR (A := W) (k := W0.heap.size)
    have u1 := fun o => (World.putObj_heap_other (o := o) (w := W) (show w.heap.size ≠ W0.heap.size by omega)).trans hx.r1
    have u2 := fun o => (World.putObj_heap_other (o := o) (w := W) (show w.heap.size + 1 ≠ W0.heap.size by omega)).trans hx.r2
    refine ⟨.tuple #[.agg #[.map none, .map none, .slice none 0 0, .int .i64 0], .bool false], ?_, ?_⟩
    · have c0 := fun o => (cell_of (u1 o) 0)
      have c1 := fun o => (cell_of (u1 o) 1)
      have c2 := fun o => (cell_of (u1 o) 2)
      have c3 := fun o => (cell_of (u1 o) 3)
      have c4 := fun o => (cell_of (u2 o) 0)
      simp [results, Tryd.f30, go_sem, c0, c1, c2, c3, c4]
    · refine ⟨_, _, _, 0, by rw [hls]; rfl, ⟨?_, ?_, ?_, fun h => (by rw [hls] at h; cases h), hx.mod.trans' (um _) (fun k hk hx => by omega)⟩⟩
      · rw [hls]; exact .inl ⟨rfl, rfl⟩
      · rw [hls]; exact .inl ⟨rfl, rfl⟩
      · rw [hls]; exact RecsAt.nil _ _
theorem load_any (s : ByteArray) (w : World) (hb : s.size ≤ 1099511627776) (hT : Tabs w) :
    Calls Tryd.prog 30 #[.string s] w fun e W => ∃ mn mp sl f, e = .returned (.tuple #[.agg #[mn, mp, sl, .int .i64 (f : Nat)], .bool (listS s).isSome]) ∧ LoadOut w s mn mp sl f W := by
  by_cases h : s.size % 64 = 0 ∧ s.size ≤ 7168
  · exact load_ok s w h hT
  · exact load_bad s w hb h
end Go.Proofs.YtfkmfllhlhefdaaDoor
