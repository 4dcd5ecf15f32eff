/- Package fids's Table: New, Add, Get, Set, Drop, Len. -/
import Derived.Test.YtcadkaedahoefaaPTab
import Derived.Test.YtcadkaedahoefaaTags
import Derived.Test.YtcadkaedahoefaaRegionLast
import Derived.Laws.Cover3
namespace Go.Proofs.Ytcadkaedahoefaa
open Go.RowKit

def fV (l : HL) (x : Nat) : Option Value := (lookH l x).map Fd.v
abbrev MapH (w : World) (b n : Nat) (l : HL) : Prop := MapS Try.prog 56 encU32 w b n (fV l) l.length
structure TabP (w : World) (F : Nat → Prop) (b mb n : Nat) (l : HL) (most : Int) : Prop where
  obj : w.heap[b]? = some (.cells #[.map (some mb), .int .i64 most] 88 (0, 0))
  map : MapH w mb n l
  ri : Rising l
  ne : b ≠ mb
  fb : F b
  fm : F mb
  lt : ∀ k, F k → k < w.heap.size
def TabAt (w : World) (F : Nat → Prop) (b n : Nat) (l : HL) (most : Int) : Prop := ∃ mb, TabP w F b mb n l most
theorem TabP.mod {w w' : World} {F S : Nat → Prop} {b mb n : Nat} {l : HL} {most : Int} (h : TabP w F b mb n l most) (hm : Mod S w w') (hs : ∀ k, S k → ¬ F k) : TabP w' F b mb n l most where
  obj := (hm.block b (lt_of h.obj) (fun x => hs b x h.fb)).trans h.obj
  map := h.map.mod hm (fun x => hs mb x h.fm)
  ri := h.ri
  ne := h.ne
  fb := h.fb
  fm := h.fm
  lt := fun k hk => Nat.lt_of_lt_of_le (h.lt k hk) hm.size
theorem TabAt.mod {w w' : World} {F S : Nat → Prop} {b n : Nat} {l : HL} {most : Int} (h : TabAt w F b n l most) (hm : Mod S w w') (hs : ∀ k, S k → ¬ F k) : TabAt w' F b n l most := by
  obtain ⟨mb, h⟩ := h
  exact ⟨mb, h.mod hm hs⟩
theorem TabAt.mono {w : World} {F : Nat → Prop} {b n n' : Nat} {l : HL} {most : Int} (h : TabAt w F b n l most) (hn : n ≤ n') : TabAt w F b n' l most := by
  obtain ⟨mb, h1, ⟨D, ho, hd⟩, h2, h3, h4, h5, h6⟩ := h
  exact ⟨mb, h1, ⟨D, ho.mono hn, hd⟩, h2, h3, h4, h5, h6⟩
/-- the map has turned -/
theorem TabP.turn {w w' : World} {F : Nat → Prop} {b mb n n' : Nat} {l l' : HL} {most : Int} (h : TabP w F b mb n l most) (hm : Mod (· = mb) w w') (hM : MapH w' mb n' l') (hr : Rising l') : TabP w' F b mb n' l' most where
  obj := (hm.block b (lt_of h.obj) h.ne).trans h.obj
  map := hM
  ri := hr
  ne := h.ne
  fb := h.fb
  fm := h.fm
  lt := fun k hk => Nat.lt_of_lt_of_le (h.lt k hk) hm.size
theorem lawH : Maps.Keyed Try.prog 56 := Maps.int_keyed Try.underlying56
theorem zeroFd (w : World) : (zeroValue 59).run Try.prog w = .ok Fd.zero.v w := by kernel_rfl
theorem mapH_look {w : World} {b n : Nat} {l : HL} (h : MapH w b n l) (x : Nat) (hx : x < 4294967296) :
    (Instr.lookup 86 (.map (some b)) (.int .u32 x) true).run Try.prog w = .ok (.tuple #[((lookH l x).getD Fd.zero).v, .bool (lookH l x).isSome]) w := by
  rw [h.mapF.look_ok lawH Try.underlying86 (zeroFd w) (key_u32 Try.underlying56 hx)]
  unfold fV
  cases lookH l x <;> rfl
theorem mapH_put {w : World} {b n : Nat} {l : HL} (h : MapH w b n l) (hr : Rising l) (hn : n < 1000000) (x : Nat) (hx : x < 4294967296) (q : Fd) (hno : lookH l x = none) :
    ∃ w', (Instr.mapUpdate 86 (.map (some b)) (.int .u32 x) q.v).run Try.prog w = .ok () w' ∧ MapH w' b (n + 1) (insH l x q) ∧ Mod (· = b) w w' := by
  obtain ⟨w', h1, h2, h3⟩ := h.store encU32_inj lawH Try.underlying86 (by unfold maxLen; omega) (v := q.v) (key_u32 Try.underlying56 hx)
  refine ⟨w', h1, h2.congr (fun y => ?_) ?_, h3⟩
  · unfold fV
    rw [look_ins hr q hno]
    split <;> rfl
  · unfold fV
    rw [hno, insH_length]
    rfl
theorem mapH_set {w : World} {b n : Nat} {l : HL} (h : MapH w b n l) (hr : Rising l) (hn : n < 1000000) (x : Nat) (hx : x < 4294967296) (q q0 : Fd) (hs : lookH l x = some q0) :
    ∃ w', (Instr.mapUpdate 86 (.map (some b)) (.int .u32 x) q.v).run Try.prog w = .ok () w' ∧ MapH w' b (n + 1) (setH l x q) ∧ Mod (· = b) w w' := by
  obtain ⟨w', h1, h2, h3⟩ := h.store encU32_inj lawH Try.underlying86 (by unfold maxLen; omega) (v := q.v) (key_u32 Try.underlying56 hx)
  refine ⟨w', h1, h2.congr (fun y => ?_) ?_, h3⟩
  · unfold fV
    rw [look_set hr q hs]
    split <;> rfl
  · unfold fV
    rw [hs, setH_length]
    rfl
theorem mapH_del {w : World} {b n : Nat} {l : HL} (h : MapH w b n l) (hr : Rising l) (x : Nat) (hx : x < 4294967296) :
    ∃ w', (∀ ty, (Builtin.delete_ #[86, 56] ty #[.map (some b), .int .u32 x]).run Try.prog w = .ok (.tuple #[]) w') ∧ MapH w' b n (delH l x) ∧ Mod (· = b) w w' := by
  obtain ⟨w', h1, h2, h3⟩ := h.drop encU32_inj lawH Try.underlying86 (key_u32 Try.underlying56 hx) 0
  refine ⟨w', fun ty => h1, h2.congr (fun y => ?_) ?_, h3⟩
  · unfold fV
    rw [look_del hr]
    split <;> rfl
  · unfold fV
    rw [delH_length hr, Option.isSome_map]
def badMostF (m : Int) : Bool := decide (m < 1) || decide (64 < m)
theorem newtab_any (m : Int) (w : World) :
    Calls Try.prog 17 #[.int .i64 m] w fun e w' => (badMostF m = true → e = .returned (.tuple #[.pointer none, .int .i64 2]) ∧ w' = w) ∧
      (badMostF m = false → ∃ b, e = .returned (.tuple #[.pointer (some ⟨b, 0, none⟩), .int .i64 0]) ∧ TabAt w' (fun k => w.heap.size ≤ k ∧ k < w'.heap.size) b 0 [] m ∧ Mod (fun _ => False) w w') := by
  by_cases h1 : m < 1
  · have t1 : decide (m < 1) = true := by simp [h1]
    have HB : Hid (badMostF m = true) := by show _ = _; unfold badMostF; rw [t1]; rfl
    go_enter Try.func17, Try.ntmps17
    go_wp2
    go_ret2
    exact ⟨fun _ => ⟨rfl, rfl⟩, fun h => by rw [HB.out] at h; cases h⟩
  have t1 : decide (m < 1) = false := by simp; omega
  by_cases h2 : 64 < m
  · have t2 : decide (64 < m) = true := by simp [h2]
    have HB : Hid (badMostF m = true) := by show _ = _; unfold badMostF; rw [t1, t2]; rfl
    go_enter Try.func17, Try.ntmps17
    go_wp2
    go_ret2
    exact ⟨fun _ => ⟨rfl, rfl⟩, fun h => by rw [HB.out] at h; cases h⟩
  have t2 : decide (64 < m) = false := by simp; omega
  have HB : Hid (badMostF m = false) := by show _ = _; unfold badMostF; rw [t1, t2]; rfl
  have hmm := @run_makeMap Try.prog
  go_enter Try.func17, Try.ntmps17
  go_wp2
  go_ret2
  refine ⟨fun h => (by rw [HB.out] at h; cases h), fun _ => ⟨_, rfl, ⟨w.heap.size, ?_, ?_, List.Pairwise.nil, ?_, ?_, ?_, fun k hk => hk.2⟩, ((Mod.refl _ w).alloc _).alloc _⟩⟩
  · exact new_at' _ _ _ (by simp)
  · exact ((MapS.made w Try.prog 56 encU32).mod ((Mod.refl (fun _ => False) _).alloc _) (fun x => x)).congr (fun x => rfl) rfl
  · simp
  · simp
  · simp; omega
theorem eqlM {P : Program} {t k e : TypeId} (h : P.underlying t = some (.map k e)) (m : Option Nat) (w : World) : (binOp .eql t (.map m) (.map none)).run P w = .ok (.bool m.isNone) w := by
  simp only [binOp]
  simp [run_equal_map_nil w t k e m h]
theorem pick1 {F : Nat → Prop} {b mb n n' : Nat} {l l' : HL} {most : Int} {w : World} (W : World) {α : Type} {r : α} {i : Sem α} (h : ∀ U, MapH U mb n l → ∃ w', i.run Try.prog U = .ok r w' ∧ MapH w' mb n' l' ∧ Mod (· = mb) U w') (H : TabP W F b mb n l most) (hm : Mod F w W) (hr : Rising l') :
    ∃ g : Nat → World, ∀ k, i.run Try.prog (W.drewN k) = .ok r (g k) ∧ TabP (g k) F b mb n' l' most ∧ Mod F w (g k) := by
  have hh : ∀ k, ∃ w', i.run Try.prog (W.drewN k) = .ok r w' ∧ TabP w' F b mb n' l' most ∧ Mod F w w' := fun k => by
    have H3 := H.mod ((Mod.refl (fun _ => False) W).drewN k) (fun _ x => x.elim)
    obtain ⟨w', h1, h2, h3⟩ := h _ H3.map
    exact ⟨w', h1, H3.turn h3 h2 hr, (hm.drewN k).trans (h3.mono fun k _ e => by subst e; exact H.fm)⟩
  exact ⟨fun k => Classical.choose (hh k), fun k => Classical.choose_spec (hh k)⟩
set_option maxHeartbeats 1000000 in
set_option maxRecDepth 100000 in
theorem add_any (w : World) (F : Nat → Prop) (b n x : Nat) (q : Fd) (l : HL) (most : Int) (h : TabAt w F b n l most) (hx : x < 4294967296) (hn : n < 1000000) :
    Calls Try.prog 18 #[.pointer (some ⟨b, 0, none⟩), .int .u32 x, q.v] w fun e w' => e = .returned (.int .i64 (addS l most x q).2) ∧ TabAt w' F b (n + 1) (addS l most x q).1 most ∧ Mod F w w' := by
  obtain ⟨W1, hW1⟩ : ∃ W1, w.alloc (.cells #[.int .u64 q.path, .string q.who, .bool q.opn, .int .u8 q.mode, .int .u64 q.next] 59) = W1 := ⟨_, rfl⟩
  have hB : W1.heap[w.heap.size]? = some (.cells #[.int .u64 q.path, .string q.who, .bool q.opn, .int .u8 q.mode, .int .u64 q.next] 59 (0, 0)) := by subst hW1; exact new_at _ _
  have m1 : Mod (fun _ => False) w W1 := by subst hW1; exact (Mod.refl _ _).alloc _
  obtain ⟨mb, h⟩ := h
  have h1 := h.mod m1 (fun _ x => x.elim)
  have hobj := h1.obj
  have c0 : (W1).cell? ⟨b, 0, none⟩ = some (.map (some mb)) := (cell_of hobj 0).trans rfl
  have c1 : (W1).cell? ⟨b, 1, none⟩ = some (.int .i64 most) := (cell_of hobj 1).trans rfl
  have hLk := mapH_look h1.map x hx
  have H := Lib.hid h1
  have M1 : Hid (Mod F w W1) := m1.mono fun _ _ x => x.elim
  have hle := h1.map.le
  clear h h1 hobj m1
  have hq := eqlM (P := Try.prog) Try.underlying86 (some mb)
  cases hl : lookH l x with
  | none =>
    rw [hl] at hLk
    simp only [Option.getD_none, Option.isSome_none] at hLk
    unfold Fd.zero Fd.v at hLk
    simp only at hLk
    obtain ⟨W2, hW2⟩ : ∃ W2, W1.alloc (.cells #[.int .u64 0, .string { data := #[] }, .bool false, .int .u8 0, .int .u64 0] 59) = W2 := ⟨_, rfl⟩
    have m2 : Mod (fun _ => False) W1 W2 := by subst hW2; exact (Mod.refl _ _).alloc _
    have hB2 := (m2.block w.heap.size (lt_of hB) (fun x => x)).trans hB
    have b0 : (W2).cell? ⟨w.heap.size, 0, none⟩ = some (.int .u64 q.path) := (cell_of hB2 0).trans rfl
    have b1 : (W2).cell? ⟨w.heap.size, 1, none⟩ = some (.string q.who) := (cell_of hB2 1).trans rfl
    have b2 : (W2).cell? ⟨w.heap.size, 2, none⟩ = some (.bool q.opn) := (cell_of hB2 2).trans rfl
    have b3 : (W2).cell? ⟨w.heap.size, 3, none⟩ = some (.int .u8 q.mode) := (cell_of hB2 3).trans rfl
    have b4 : (W2).cell? ⟨w.heap.size, 4, none⟩ = some (.int .u64 q.next) := (cell_of hB2 4).trans rfl
    have hobj := (H.out.mod m2 (fun _ x => x.elim)).obj
    have c0 : (W2).cell? ⟨b, 0, none⟩ = some (.map (some mb)) := (cell_of hobj 0).trans rfl
    have c1 : (W2).cell? ⟨b, 1, none⟩ = some (.int .i64 most) := (cell_of hobj 1).trans rfl
    have hLen : ∀ k ty, (Builtin.len_ #[86] ty #[.map (some mb)]).run Try.prog (W2.drewN k) = .ok (.int .i64 l.length) (W2.drewN k) := fun k ty => ((H.out.mod m2 (fun _ x => x.elim)).mod ((Mod.refl (fun _ => False) W2).drewN k) (fun _ x => x.elim)).map.len Try.underlying86 ty
    have H2 := Lib.hid (H.out.mod m2 (fun _ x => x.elim))
    have M2 : Hid (Mod F w W2) := M1.out.trans (m2.mono fun _ _ x => x.elim)
    clear m2 hobj hB2
    subst hW2
    by_cases h1 : x = 4294967295
    · have HV : Hid (addS l most x q = (l, 2)) := if_pos h1
      have t1 : ((x : Int) == 4294967295) = true := by simp [h1]
      clear hl h1
      unfold Fd.v
      go_enter Try.func18, Try.ntmps18
      go_wp2
      go_ret
      exact ⟨by rw [HV.out]; rfl, by rw [HV.out]; exact TabAt.mono ⟨mb, H2.out⟩ (by omega), M2.out⟩
    have t1 : ((x : Int) == 4294967295) = false := by simp; omega
    by_cases h3 : most ≤ l.length
    · have HV : Hid (addS l most x q = (l, 6)) := by show _ = _; unfold addS; rw [if_neg h1, hl, if_neg (by simp), if_pos h3]
      have t3 : decide (most ≤ (l.length : Int)) = true := by simp [h3]
      clear hl
      unfold Fd.v
      go_enter Try.func18, Try.ntmps18
      go_wp2
      go_quiet (fail)
      go_wp2
      go_ret
      exact ⟨by rw [HV.out]; rfl, by rw [HV.out]; exact TabAt.mono ⟨mb, H2.out.mod ((Mod.refl (fun _ => False) _).drewN _) (fun _ x => x.elim)⟩ (by omega), M2.out.drewN _⟩
    · have HV : Hid (addS l most x q = (insH l x q, 0)) := by show _ = _; unfold addS; rw [if_neg h1, hl, if_neg (by simp), if_neg h3]
      have t3 : decide (most ≤ (l.length : Int)) = false := by simp; omega
      have HP : Hid (∀ U, MapH U mb n l → ∃ w', (Instr.mapUpdate 86 (.map (some mb)) (.int .u32 x) q.v).run Try.prog U = .ok () w' ∧ MapH w' mb (n + 1) (insH l x q) ∧ Mod (· = mb) U w') := fun U hU => mapH_put hU H2.out.ri hn x hx q hl
      have HR : Hid (Rising (insH l x q)) := H2.out.ri.ins q hl
      obtain ⟨g, hg⟩ := pick1 (W1.alloc (.cells #[.int .u64 0, .string { data := #[] }, .bool false, .int .u8 0, .int .u64 0] 59)) (fun U => HP.out U) H2.out M2.out HR.out
      have hg1 := fun k => (hg k).1
      unfold Fd.v at hg1
      have HG := Lib.hid hg
      clear hg
      clear hl
      unfold Fd.v
      go_enter Try.func18, Try.ntmps18
      go_wp2
      go_quiet (fail)
      go_wp2
      refine wp_region_then (k := 6) _ _ rfl rfl rfl (by kernel_rfl) (by kernel_rfl) (by kernel_rfl) ?_
      simp only [List.take_succ_cons, List.take_zero]
      repeat (go_big_quiet_step (fail))
      refine wpQuiet_nil ?_
      intro _ hw'
      obtain ⟨nq, hw''⟩ := hw'
      subst hw''
      intro K hK
      go_simp
      refine hK _ _ ?_; clear hK K
      go_wp2
      go_ret
      have hg := HG.out
      exact ⟨by rw [HV.out]; rfl, by rw [HV.out]; exact ⟨mb, (hg _).2.1⟩, (hg _).2.2⟩
  | some q0 =>
    rw [hl] at hLk
    simp only [Option.getD_some, Option.isSome_some] at hLk
    unfold Fd.v at hLk
    obtain ⟨W2, hW2⟩ : ∃ W2, W1.alloc (.cells #[.int .u64 q0.path, .string q0.who, .bool q0.opn, .int .u8 q0.mode, .int .u64 q0.next] 59) = W2 := ⟨_, rfl⟩
    have m2 : Mod (fun _ => False) W1 W2 := by subst hW2; exact (Mod.refl _ _).alloc _
    have hB2 := (m2.block w.heap.size (lt_of hB) (fun x => x)).trans hB
    have b0 : (W2).cell? ⟨w.heap.size, 0, none⟩ = some (.int .u64 q.path) := (cell_of hB2 0).trans rfl
    have b1 : (W2).cell? ⟨w.heap.size, 1, none⟩ = some (.string q.who) := (cell_of hB2 1).trans rfl
    have b2 : (W2).cell? ⟨w.heap.size, 2, none⟩ = some (.bool q.opn) := (cell_of hB2 2).trans rfl
    have b3 : (W2).cell? ⟨w.heap.size, 3, none⟩ = some (.int .u8 q.mode) := (cell_of hB2 3).trans rfl
    have b4 : (W2).cell? ⟨w.heap.size, 4, none⟩ = some (.int .u64 q.next) := (cell_of hB2 4).trans rfl
    have hobj := (H.out.mod m2 (fun _ x => x.elim)).obj
    have c0 : (W2).cell? ⟨b, 0, none⟩ = some (.map (some mb)) := (cell_of hobj 0).trans rfl
    have c1 : (W2).cell? ⟨b, 1, none⟩ = some (.int .i64 most) := (cell_of hobj 1).trans rfl
    have hLen : ∀ k ty, (Builtin.len_ #[86] ty #[.map (some mb)]).run Try.prog (W2.drewN k) = .ok (.int .i64 l.length) (W2.drewN k) := fun k ty => ((H.out.mod m2 (fun _ x => x.elim)).mod ((Mod.refl (fun _ => False) W2).drewN k) (fun _ x => x.elim)).map.len Try.underlying86 ty
    have H2 := Lib.hid (H.out.mod m2 (fun _ x => x.elim))
    have M2 : Hid (Mod F w W2) := M1.out.trans (m2.mono fun _ _ x => x.elim)
    clear m2 hobj hB2
    by_cases h1 : x = 4294967295
    · have HV : Hid (addS l most x q = (l, 2)) := if_pos h1
      have t1 : ((x : Int) == 4294967295) = true := by simp [h1]
      clear hl h1
      unfold Fd.v
      go_enter Try.func18, Try.ntmps18
      go_wp2
      go_ret
      exact ⟨by rw [HV.out]; rfl, by rw [HV.out]; exact TabAt.mono ⟨mb, H2.out⟩ (by omega), M2.out⟩
    have t1 : ((x : Int) == 4294967295) = false := by simp; omega
    have HV : Hid (addS l most x q = (l, 184)) := by show _ = _; unfold addS; rw [if_neg h1, hl]; rfl
    clear hl
    unfold Fd.v
    go_enter Try.func18, Try.ntmps18
    go_wp2
    go_ret
    exact ⟨by rw [HV.out]; rfl, by rw [HV.out]; exact TabAt.mono ⟨mb, H2.out⟩ (by omega), M2.out⟩
theorem set5 {U : World} {b : Nat} {T : TypeId} {c0 c1 c2 c3 c4 : Value} (h : U.heap[b]? = some (.cells #[c0, c1, c2, c3, c4] T (0, 0))) (v0 v1 v2 v3 v4 : Value) :
    (((((((U).setCell ⟨b, 0, none⟩ (v0)).setCell ⟨b, 1, none⟩ (v1)).setCell ⟨b, 2, none⟩ (v2)).setCell ⟨b, 3, none⟩ (v3)).setCell ⟨b, 4, none⟩ (v4))).heap[b]? = some (.cells #[v0, v1, v2, v3, v4] T (0, 0)) := by
  have := heap_set (heap_set (heap_set (heap_set (heap_set h 0 v0) 1 v1) 2 v2) 3 v3) 4 v4
  simpa only [List.setIfInBounds_toArray, List.set_cons_zero, List.set_cons_succ] using this
theorem mod5 (U : World) (b : Nat) (v0 v1 v2 v3 v4 : Value) : Mod (· = b) U (((((((U).setCell ⟨b, 0, none⟩ (v0)).setCell ⟨b, 1, none⟩ (v1)).setCell ⟨b, 2, none⟩ (v2)).setCell ⟨b, 3, none⟩ (v3)).setCell ⟨b, 4, none⟩ (v4))) :=
  ((((Mod.set1 U b 0 v0).trans (Mod.set1 _ b 1 v1)).trans (Mod.set1 _ b 2 v2)).trans (Mod.set1 _ b 3 v3)).trans (Mod.set1 _ b 4 v4)
set_option maxHeartbeats 1000000 in
set_option maxRecDepth 100000 in
theorem get_any (w : World) (F : Nat → Prop) (b n x : Nat) (l : HL) (most : Int) (h : TabAt w F b n l most) (hx : x < 4294967296) :
    Calls Try.prog 20 #[.pointer (some ⟨b, 0, none⟩), .int .u32 x] w fun e w' => e = .returned (.tuple #[(getS l x).1.v, .int .i64 (getS l x).2]) ∧ Mod (fun _ => False) w w' := by
  obtain ⟨W1, hW1⟩ : ∃ W1, w.alloc (.cells #[.int .u64 0, .string { data := #[] }, .bool false, .int .u8 0, .int .u64 0] 59) = W1 := ⟨_, rfl⟩
  obtain ⟨mb, h⟩ := h
  have hq : getS l x = match lookH l x with | some q => (q, 0) | none => (Fd.zero, 5) := rfl
  have m1 : Mod (fun _ => False) w W1 := by subst hW1; exact (Mod.refl _ _).alloc _
  have h1 := h.mod m1 (fun _ x => x.elim)
  have hLk := mapH_look h1.map x hx
  have hobj := h1.obj
  have c0 : (W1).cell? ⟨b, 0, none⟩ = some (.map (some mb)) := (cell_of hobj 0).trans rfl
  have c1 : (W1).cell? ⟨b, 1, none⟩ = some (.int .i64 most) := (cell_of hobj 1).trans rfl
  cases hl : lookH l x with
  | none =>
    rw [hl] at hq hLk
    have HV : Hid (getS l x = (Fd.zero, 5)) := hq
    simp only [Option.getD_none, Option.isSome_none] at hLk
    unfold Fd.zero Fd.v at hLk
    simp only at hLk
    subst hW1
    clear h h1 hobj hl hq
    go_enter Try.func20, Try.ntmps20
    go_wp2
    obtain ⟨Wf, hWf⟩ : ∃ Wf, (w.alloc (.cells #[.int .u64 0, .string { data := #[] }, .bool false, .int .u8 0, .int .u64 0] 59)).alloc (.cells #[.int .u64 0, .string { data := #[] }, .bool false, .int .u8 0, .int .u64 0] 59) = Wf := ⟨_, rfl⟩
    rw [hWf]
    have hz : Wf.heap[w.heap.size]? = some (.cells #[.int .u64 0, .string { data := #[] }, .bool false, .int .u8 0, .int .u64 0] 59 (0, 0)) := by rw [← hWf]; exact alloc_keep (new_at w _)
    have mf : Mod (fun _ => False) w Wf := by rw [← hWf]; exact m1.alloc _
    have z0 : (Wf).cell? ⟨w.heap.size, 0, none⟩ = some (.int .u64 0) := (cell_of (hz) 0).trans rfl
    have z1 : (Wf).cell? ⟨w.heap.size, 1, none⟩ = some (.string { data := #[] }) := (cell_of (hz) 1).trans rfl
    have z2 : (Wf).cell? ⟨w.heap.size, 2, none⟩ = some (.bool false) := (cell_of (hz) 2).trans rfl
    have z3 : (Wf).cell? ⟨w.heap.size, 3, none⟩ = some (.int .u8 0) := (cell_of (hz) 3).trans rfl
    have z4 : (Wf).cell? ⟨w.heap.size, 4, none⟩ = some (.int .u64 0) := (cell_of (hz) 4).trans rfl
    refine bodyPost_ret (v := .tuple #[.agg #[.int .u64 0, .string { data := #[] }, .bool false, .int .u8 0, .int .u64 0], .int .i64 5]) ?_ rfl ⟨by rw [HV.out]; rfl, mf⟩
    simp [results, Try.f20, go_sem, z0, z1, z2, z3, z4]
  | some q0 =>
    rw [hl] at hq hLk
    have HV : Hid (getS l x = (q0, 0)) := hq
    simp only [Option.getD_some, Option.isSome_some] at hLk
    unfold Fd.v at hLk
    have hr1 : W1.heap[w.heap.size]? = some (.cells #[.int .u64 0, .string { data := #[] }, .bool false, .int .u8 0, .int .u64 0] 59 (0, 0)) := by subst hW1; exact new_at _ _
    obtain ⟨W2, hW2⟩ : ∃ W2, W1.alloc (.cells #[.int .u64 q0.path, .string q0.who, .bool q0.opn, .int .u8 q0.mode, .int .u64 q0.next] 59) = W2 := ⟨_, rfl⟩
    have m2 : Mod (fun _ => False) W1 W2 := by subst hW2; exact (Mod.refl _ _).alloc _
    have hr2 := (m2.block _ (lt_of hr1) (fun x => x)).trans hr1
    have hB : W2.heap[W1.heap.size]? = some (.cells #[.int .u64 q0.path, .string q0.who, .bool q0.opn, .int .u8 q0.mode, .int .u64 q0.next] 59 (0, 0)) := by subst hW2; exact new_at _ _
    have d0 : W2.cell? ⟨W1.heap.size, 0, none⟩ = some (.int .u64 q0.path) := (cell_of hB 0).trans rfl
    have d1 : W2.cell? ⟨W1.heap.size, 1, none⟩ = some (.string q0.who) := (cell_of hB 1).trans rfl
    have d2 : W2.cell? ⟨W1.heap.size, 2, none⟩ = some (.bool q0.opn) := (cell_of hB 2).trans rfl
    have d3 : W2.cell? ⟨W1.heap.size, 3, none⟩ = some (.int .u8 q0.mode) := (cell_of hB 3).trans rfl
    have d4 : W2.cell? ⟨W1.heap.size, 4, none⟩ = some (.int .u64 q0.next) := (cell_of hB 4).trans rfl
    have r0 : (W2).cell? ⟨w.heap.size, 0, none⟩ = some (.int .u64 0) := (cell_of (hr2) 0).trans rfl
    have rf0 : (W2).frozen? ⟨w.heap.size, 0, none⟩ = false := free_of (hr2) 0
    have r1 : (W2).cell? ⟨w.heap.size, 1, none⟩ = some (.string { data := #[] }) := (cell_of (hr2) 1).trans rfl
    have rf1 : (W2).frozen? ⟨w.heap.size, 1, none⟩ = false := free_of (hr2) 1
    have r2 : (W2).cell? ⟨w.heap.size, 2, none⟩ = some (.bool false) := (cell_of (hr2) 2).trans rfl
    have rf2 : (W2).frozen? ⟨w.heap.size, 2, none⟩ = false := free_of (hr2) 2
    have r3 : (W2).cell? ⟨w.heap.size, 3, none⟩ = some (.int .u8 0) := (cell_of (hr2) 3).trans rfl
    have rf3 : (W2).frozen? ⟨w.heap.size, 3, none⟩ = false := free_of (hr2) 3
    have r4 : (W2).cell? ⟨w.heap.size, 4, none⟩ = some (.int .u64 0) := (cell_of (hr2) 4).trans rfl
    have rf4 : (W2).frozen? ⟨w.heap.size, 4, none⟩ = false := free_of (hr2) 4
    have HR2 := Lib.hid hr2
    have HM2 := Lib.hid (m1.trans m2)
    obtain ⟨a1, ha1⟩ : ∃ a1, W1.heap.size = a1 := ⟨_, rfl⟩
    rw [ha1] at d0 d1 d2 d3 d4
    clear h h1 hobj hl hq hr1 hr2 hB m1 m2
    go_enter Try.func20, Try.ntmps20
    go_wp2
    obtain ⟨W6, hW6⟩ : ∃ W6, ((((((W2).setCell ⟨w.heap.size, 0, none⟩ (.int .u64 q0.path)).setCell ⟨w.heap.size, 1, none⟩ (.string q0.who)).setCell ⟨w.heap.size, 2, none⟩ (.bool q0.opn)).setCell ⟨w.heap.size, 3, none⟩ (.int .u8 q0.mode)).setCell ⟨w.heap.size, 4, none⟩ (.int .u64 q0.next)) = W6 := ⟨_, rfl⟩
    have h6 : W6.heap[w.heap.size]? = some (.cells #[.int .u64 q0.path, .string q0.who, .bool q0.opn, .int .u8 q0.mode, .int .u64 q0.next] 59 (0, 0)) := by subst hW6; exact set5 HR2.out _ _ _ _ _
    have hm6 : Mod (· = w.heap.size) W2 W6 := by subst hW6; exact mod5 _ _ _ _ _ _ _
    rw [hW6]
    have z0 : (W6).cell? ⟨w.heap.size, 0, none⟩ = some (.int .u64 q0.path) := (cell_of (h6) 0).trans rfl
    have z1 : (W6).cell? ⟨w.heap.size, 1, none⟩ = some (.string q0.who) := (cell_of (h6) 1).trans rfl
    have z2 : (W6).cell? ⟨w.heap.size, 2, none⟩ = some (.bool q0.opn) := (cell_of (h6) 2).trans rfl
    have z3 : (W6).cell? ⟨w.heap.size, 3, none⟩ = some (.int .u8 q0.mode) := (cell_of (h6) 3).trans rfl
    have z4 : (W6).cell? ⟨w.heap.size, 4, none⟩ = some (.int .u64 q0.next) := (cell_of (h6) 4).trans rfl
    refine bodyPost_ret (v := .tuple #[.agg #[.int .u64 q0.path, .string q0.who, .bool q0.opn, .int .u8 q0.mode, .int .u64 q0.next], .int .i64 0]) ?_ rfl ⟨by rw [HV.out]; rfl, HM2.out.trans' hm6 (fun j hj e => by omega)⟩
    simp [results, Try.f20, go_sem, z0, z1, z2, z3, z4]
end Go.Proofs.Ytcadkaedahoefaa
