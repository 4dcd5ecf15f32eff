/- The document's tree in memory, as it reads; the place of a path; who may.
   The document's tree: who may do something, a file's qid, modes, how many kids, bytes of a size.
   A region that draws its order, of which all but the last operation only read: one walk in the order of the text, then the last one.
   A region that draws its order, of which all but the last operation only read: the last one comes up behind all others, through others too.
   The document's tree: bytes of a size, a kid of a name, a file's stat.
   The document's tree: a file's stat; Stat, Parent.
   The document's tree: Stat, Parent, Read, Untouched.
   Numbers and texts as bytes: package code's writers, and the document's.
   Package dir's free, slot, with.
   Directories, plain: rows of slots.
   Directories, plain: what is done to one slot.
   Directories, plain: put, drop, rename keep all others.
   The document's directories: names, slots. -/
import Derived.Test.YtkcnbbjmkkaolaaGreatDoorQG00
import Derived.Deep.MidRow
import Derived.Laws.BitsAllLaws
import Derived.Deep.DeepCutAuto
import Derived.Deep.RegionHeld
import Derived.Test.YtkcnbbjmkkaolaaGreatDoorShelf
set_option linter.unusedVariables false
set_option linter.unusedSimpArgs false
namespace Go.Proofs.YtkcnbbjmkkaolaaGreatDoor
open Go.RowKit

/-- a file's cells; its kids in a slice -/
def ndC (p : Nd × Value) : List Value := [.int .u64 p.1.path, .bool p.1.dir, .int .u32 p.1.ver, .int .u32 p.1.perm, .string p.1.uid, .string p.1.gid, .string p.1.muid, .int .u32 p.1.atime, .int .u32 p.1.mtime, .int .u64 p.1.parent, .string p.1.name, .string p.1.data, p.2]
theorem ndC_len (p : Nd × Value) : (ndC p).length = 13 := rfl
def kidsV (l : List Nat) : List Value := l.map fun (k : Nat) => .int .u64 k
def ndO (n : Nd) (vk : Value) : Obj := .cells (ndC (n, vk)).toArray 83 (0, 0)
/-- the tree at b, read: its row at g -/
structure RV (w : World) (b g cap : Nat) (T : Tr) (vks : Nat → Value) : Prop where
  c0 : w.cell? ⟨b, 0, none⟩ = some (.slice (some ⟨g, 0, none⟩) T.L.length cap)
  c1 : w.cell? ⟨b, 1, none⟩ = some (.int .u64 T.last)
  cap : T.L.length ≤ cap
  el : ∀ i n, T.L[i]? = some n → ∀ c u, (ndC (n, vks i))[c]? = some u → w.cell? ⟨g, i * 13 + c, none⟩ = some u
  kid : ∀ i n, T.L[i]? = some n → SlAt w (fun _ => True) (vks i) (kidsV n.kids)
theorem keepN {U V : World} (hm : Mod (fun _ => False) U V) {b i : Nat} {v : Value} (h : U.cell? ⟨b, i, none⟩ = some v) : V.cell? ⟨b, i, none⟩ = some v :=
  (World.cell?_of_block (a := ⟨b, i, none⟩) (hm.block b (World.block_lt_of_cell? _ _ h) (fun x => x))).trans h
theorem RV.mod {w w' : World} {b g cap : Nat} {T : Tr} {vks : Nat → Value} (h : RV w b g cap T vks) (hm : Mod (fun _ => False) w w') : RV w' b g cap T vks :=
  ⟨keepN hm h.c0, keepN hm h.c1, h.cap, fun i n hi c u hu => keepN hm (h.el i n hi c u hu), fun i n hi => (h.kid i n hi).mod hm fun _ _ _ x => x⟩
def atI (L : List Nd) (p : Nat) : Int := match idxP L p with
  | some i => i
  | none => -1
def atFrom (L : List Nd) (p j : Nat) : Int := match idxP (L.drop j) p with
  | some i => ((j + i : Nat) : Int)
  | none => -1
theorem atFrom_zero (L : List Nd) (p : Nat) : atFrom L p 0 = atI L p := by
  unfold atFrom atI
  rw [List.drop_zero]
  cases idxP L p with
  | none => rfl
  | some i => show ((0 + i : Nat) : Int) = i; rw [Nat.zero_add]
theorem atFrom_hit {L : List Nd} {p j : Nat} {n : Nd} (h : L[j]? = some n) (hp : n.path = p) : atFrom L p j = j := by
  obtain ⟨hl, rfl⟩ := List.getElem?_eq_some_iff.1 h
  unfold atFrom idxP
  rw [List.drop_eq_getElem_cons hl, List.findIdx?_cons, show (L[j].path == p) = true by simp [hp]]
  simp
theorem atFrom_step {L : List Nd} {p j : Nat} {n : Nd} (h : L[j]? = some n) (hp : n.path ≠ p) : atFrom L p j = atFrom L p (j + 1) := by
  obtain ⟨hl, rfl⟩ := List.getElem?_eq_some_iff.1 h
  unfold atFrom idxP
  rw [List.drop_eq_getElem_cons hl, List.findIdx?_cons, show (L[j].path == p) = false by simp [hp]]
  simp only [Bool.false_eq_true, if_false]
  cases (L.drop (j + 1)).findIdx? fun n => n.path == p with
  | none => rfl
  | some i => show ((j + (i + 1) : Nat) : Int) = ((j + 1 + i : Nat) : Int); omega
theorem atFrom_end (L : List Nd) (p : Nat) : atFrom L p L.length = -1 := by
  unfold atFrom
  rw [List.drop_length]; rfl
theorem atI_some {L : List Nd} {p i : Nat} (h : idxP L p = some i) : atI L p = i := by unfold atI; rw [h]
theorem atI_none {L : List Nd} {p : Nat} (h : look L p = none) : atI L p = -1 := by unfold atI; rw [idx_none.2 h]
theorem at_any (b g cap : Nat) (T : Tr) (vks : Nat → Value) (p : Nat) (w : World) (h : RV w b g cap T vks) (hl : T.L.length ≤ 1024) :
    Calls Tryz.prog 97 #[.pointer (some ⟨b, 0, none⟩), .int .u64 p] w fun e w' => e = .returned (.int .i64 (atI T.L p)) ∧ w = w' := by
  have c0 := h.c0
  have H := Lib.hid h
  have hcap := h.cap
  clear h
  go_enter Tryz.func97, Tryz.ntmps97
  go_wp2
  go_loop [4, 5] (fun _ i => ∃ j : Nat, j ≤ T.L.length ∧ i = .int .i64 j ∧ Hid (atI T.L p = atFrom T.L p j)) (fun _ i => T.L.length - (intOf i).toNat)
  case atStart => exact ⟨0, Nat.zero_le _, rfl, (atFrom_zero _ _).symm⟩
  case round =>
    obtain ⟨j, hj, rfl, HA⟩ := hrel
    by_cases hlt : j < T.L.length
    · have t1 : decide ((j : Int) < (T.L.length : Int)) = true := by simp; omega
      have t1' : decide (j < T.L.length) = true := by simp; omega
      obtain ⟨n, hn⟩ : ∃ n, T.L[j]? = some n := ⟨_, List.getElem?_eq_getElem hlt⟩
      have e0 : w.cell? ⟨g, j * 13, none⟩ = some (.int .u64 n.path) := H.out.el j n hn 0 _ rfl
      have i1 : (0 : Int) ≤ (j : Int) := by omega
      have i2 : (j : Int) < (T.L.length : Int) := by omega
      have i3 : (T.L.length : Int) ≤ (cap : Int) := by omega
      by_cases hp : n.path = p
      · have t2 : ((n.path : Int) == (p : Int)) = true := by simp [hp]
        have HV : Hid (atI T.L p = j) := HA.out.trans (atFrom_hit hn hp)
        clear hn hp HA
        go_wp2
        go_ret
        exact ⟨by rw [HV.out]; rfl, rfl⟩
      · have t2 : ((n.path : Int) == (p : Int)) = false := by simp; omega
        have HV := Lib.hid (HA.out.trans (atFrom_step hn hp))
        clear hn hp HA
        go_wp2
        go_round
        case rel => exact ⟨j + 1, hlt, by go_num, HV.out⟩
        case measure => simp [intOf]; omega
    · obtain rfl : j = T.L.length := by omega
      have t1 : decide ((T.L.length : Int) < (T.L.length : Int)) = false := by simp
      have t1' : decide (T.L.length < T.L.length) = false := by simp
      have HV : Hid (atI T.L p = -1) := HA.out.trans (atFrom_end _ _)
      clear HA
      go_wp2
      go_ret
      exact ⟨by rw [HV.out]; rfl, rfl⟩
end Go.Proofs.YtkcnbbjmkkaolaaGreatDoor
namespace Go.Proofs.YtkcnbbjmkkaolaaGreatDoor
open Go.RowKit

theorem str_beq (a b : ByteArray) : (a.toList == b.toList) = decide (a = b) := by
  rw [ByteArray.toList_eq, ByteArray.toList_eq]
  by_cases h : a = b
  · subst h; simp
  · rw [decide_eq_false h]
    refine beq_eq_false_iff_ne.2 fun e => h ?_
    exact ByteArray.ext (Array.toList_inj.1 e)
theorem and7_lt (x : Nat) : x &&& 7 < 8 := Nat.lt_succ_of_le Nat.and_le_right
theorem shr_int (x k : Nat) : ((x >>> k : Nat) : Int) = (x : Int) / 2 ^ k := by
  rw [Nat.shiftRight_eq_div_pow]; push_cast; rfl
set_option maxHeartbeats 1000000 in
theorem rmay_any (n : Nd) (vk : Value) (who : ByteArray) (bt : Nat) (w : World) (hb : bt < 8) (hp : n.perm < 512) :
    Calls Tryz.prog 98 #[.agg (ndC (n, vk)).toArray, .string who, .int .u32 bt] w fun e w' => e = .returned (.bool (mayB n who bt)) ∧ Mod (fun _ => False) w w' := by
  obtain ⟨W, hW⟩ : ∃ W, w.alloc (.cells (ndC (n, vk)).toArray 83) = W := ⟨_, rfl⟩
  have hbk : W.heap[w.heap.size]? = some (ndO n vk) := by subst hW; exact new_at _ _
  have m0 : Mod (fun _ => False) w W := by subst hW; exact (Mod.refl _ w).alloc _
  have c3 : W.cell? ⟨w.heap.size, 3, none⟩ = some (.int .u32 n.perm) := (cell_of hbk 3).trans rfl
  have c4 : W.cell? ⟨w.heap.size, 4, none⟩ = some (.string n.uid) := (cell_of hbk 4).trans rfl
  have c5 : W.cell? ⟨w.heap.size, 5, none⟩ = some (.string n.gid) := (cell_of hbk 5).trans rfl
  have z0 : bits .and .u32 (n.perm : Int) 7 = ((n.perm &&& 7 : Nat) : Int) := u32_and_nat n.perm 7 (by omega) (by decide)
  have h3 : n.perm >>> 3 < 4294967296 := by rw [Nat.shiftRight_eq_div_pow]; omega
  have h6 : n.perm >>> 6 < 4294967296 := by rw [Nat.shiftRight_eq_div_pow]; omega
  have z1 : bits .and .u32 ((n.perm : Int) / 8) 7 = ((n.perm >>> 3 &&& 7 : Nat) : Int) := by
    rw [← u32_and_nat (n.perm >>> 3) 7 h3 (by decide), shr_int]; rfl
  have z2 : bits .and .u32 ((n.perm : Int) / 64) 7 = ((n.perm >>> 6 &&& 7 : Nat) : Int) := by
    rw [← u32_and_nat (n.perm >>> 6) 7 h6 (by decide), shr_int]; rfl
  have l0 := and7_lt n.perm
  have l1 := and7_lt (n.perm >>> 3)
  have l2 := and7_lt (n.perm >>> 6)
  have HM : Hid (mayB n who bt = ((if who = n.uid then n.perm >>> 6 &&& 7 else if who = n.gid then n.perm >>> 3 &&& 7 else n.perm &&& 7) &&& bt == bt)) := rfl
  generalize n.perm &&& 7 = q0 at *
  generalize n.perm >>> 3 &&& 7 = q1 at *
  generalize n.perm >>> 6 &&& 7 = q2 at *
  have y0 := u32_and_nat q0 bt (by omega) (by omega)
  have y1 := u32_and_nat q1 bt (by omega) (by omega)
  have y2 := u32_and_nat q2 bt (by omega) (by omega)
  have s1 : (who.toList == n.gid.toList) = decide (who = n.gid) := str_beq _ _
  have s2 : (who.toList == n.uid.toList) = decide (who = n.uid) := str_beq _ _
  have hbe : ∀ x : Nat, ((x : Int) == (bt : Int)) = (x == bt) := fun x => by
    rw [Bool.eq_iff_iff, beq_iff_eq, beq_iff_eq]; omega
  have HB := Lib.hid hbe
  clear hbk h3 h6 hbe
  by_cases hu : who = n.uid
  · have HV : Hid (mayB n who bt = (q2 &&& bt == bt)) := by show _ = _; rw [HM.out, if_pos hu]
    rw [decide_eq_true hu] at s2
    clear HM hu
    generalize decide (who = n.gid) = sb at s1
    cases sb
    all_goals
      go_enter Tryz.func98, Tryz.ntmps98
      go_wp2
      go_ret
      exact ⟨by rw [HV.out, ← HB.out]; rfl, m0⟩
  · rw [decide_eq_false hu] at s2
    by_cases hg : who = n.gid
    · have HV : Hid (mayB n who bt = (q1 &&& bt == bt)) := by show _ = _; rw [HM.out, if_neg hu, if_pos hg]
      rw [decide_eq_true hg] at s1
      clear HM hu hg
      go_enter Tryz.func98, Tryz.ntmps98
      go_wp2
      go_ret
      exact ⟨by rw [HV.out, ← HB.out]; rfl, m0⟩
    · have HV : Hid (mayB n who bt = (q0 &&& bt == bt)) := by show _ = _; rw [HM.out, if_neg hu, if_neg hg]
      rw [decide_eq_false hg] at s1
      clear HM hu hg
      go_enter Tryz.func98, Tryz.ntmps98
      go_wp2
      go_ret
      exact ⟨by rw [HV.out, ← HB.out]; rfl, m0⟩
/-- a file's qid, as it is told -/
def qiC (q : Qi) : List Value := [.int .u8 q.t, .int .u32 q.v, .int .u64 q.p]
set_option maxHeartbeats 1000000 in
theorem rqid_any (n : Nd) (vk : Value) (w : World) :
    Calls Tryz.prog 99 #[.agg (ndC (n, vk)).toArray] w fun e w' => e = .returned (.agg (qiC (qidOf n)).toArray) ∧ Mod (fun _ => False) w w' := by
  obtain ⟨W, hW⟩ : ∃ W, w.alloc (.cells (ndC (n, vk)).toArray 83) = W := ⟨_, rfl⟩
  have hbk : W.heap[w.heap.size]? = some (ndO n vk) := by subst hW; exact new_at _ _
  have m0 : Mod (fun _ => False) w W := by subst hW; exact (Mod.refl _ w).alloc _
  have c0 : W.cell? ⟨w.heap.size, 0, none⟩ = some (.int .u64 n.path) := (cell_of hbk 0).trans rfl
  have c1 : W.cell? ⟨w.heap.size, 1, none⟩ = some (.bool n.dir) := (cell_of hbk 1).trans rfl
  have c2 : W.cell? ⟨w.heap.size, 2, none⟩ = some (.int .u32 n.ver) := (cell_of hbk 2).trans rfl
  have hsz : w.heap.size < W.heap.size := lt_of hbk
  clear hbk
  cases hd : n.dir with
  | true =>
    rw [hd] at c1
    have HV : Hid (qidOf n = ⟨128, n.ver, n.path⟩) := by show _ = _; unfold qidOf; rw [hd]; rfl
    go_enter Tryz.func99, Tryz.ntmps99
    go_wp2
    refine bodyPost_ret (v := .agg #[.int .u8 128, .int .u32 n.ver, .int .u64 n.path]) ?_ rfl ⟨by rw [HV.out]; rfl, (m0.alloc _).alloc _⟩
    simp [results, Tryz.f99, go_sem]
  | false =>
    rw [hd] at c1
    have HV : Hid (qidOf n = ⟨0, n.ver, n.path⟩) := by show _ = _; unfold qidOf; rw [hd]; rfl
    go_enter Tryz.func99, Tryz.ntmps99
    go_wp2
    refine bodyPost_ret (v := .agg #[.int .u8 0, .int .u32 n.ver, .int .u64 n.path]) ?_ rfl ⟨by rw [HV.out]; rfl, (m0.alloc _).alloc _⟩
    simp [results, Tryz.f99, go_sem]
theorem rmode_any (m : Nat) (w : World) (hm : m < 256) : Calls Tryz.prog 101 #[.int .u8 m] w fun e w' => e = .returned (.bool (modeB m)) ∧ w = w' := by
  have z : bits .andNot .u8 (m : Int) 80 = ((m &&& 175 : Nat) : Int) := u8_andNot_nat m 80 hm (by decide)
  have HV : Hid (modeB m = decide (m &&& 175 ≤ 3)) := rfl
  generalize m &&& 175 = q at *
  go_enter Tryz.func101, Tryz.ntmps101
  go_wp2
  go_ret
  exact ⟨by rw [HV.out]; congr 2; simp; omega, rfl⟩
theorem mmode_any (m : Nat) (w : World) (hm : m < 256) : Calls Tryz.prog 59 #[.int .u8 m] w fun e w' => e = .returned (.bool (modeB m)) ∧ w = w' := by
  have z : bits .andNot .u8 (m : Int) 80 = ((m &&& 175 : Nat) : Int) := u8_andNot_nat m 80 hm (by decide)
  have HV : Hid (modeB m = decide (m &&& 175 ≤ 3)) := rfl
  generalize m &&& 175 = q at *
  go_enter Tryz.func59, Tryz.ntmps59
  go_wp2
  go_ret
  exact ⟨by rw [HV.out]; congr 2; simp; omega, rfl⟩
theorem need_tab : ∀ m : Fin 256, needOf m.val = if m.val &&& 3 = 0 then 4 else if m.val &&& 3 = 1 then 2 else if m.val &&& 3 = 2 then 6 else 1 := of_decide_eq_true (by kernel_rfl)
theorem rneed_any (m : Nat) (w : World) (hm : m < 256) : Calls Tryz.prog 102 #[.int .u8 m] w fun e w' => e = .returned (.int .u32 (needOf m)) ∧ w = w' := by
  have z : bits .and .u8 (m : Int) 3 = ((m &&& 3 : Nat) : Int) := u8_and_nat m 3 hm (by decide)
  have HV : Hid (needOf m = if m &&& 3 = 0 then 4 else if m &&& 3 = 1 then 2 else if m &&& 3 = 2 then 6 else 1) := rfl
  generalize m &&& 3 = q at *
  by_cases h0 : q = 0
  · have HV2 : Hid (needOf m = 4) := by rw [h0] at HV; exact HV.out
    have z : bits .and .u8 (m : Int) 3 = 0 := by rw [z, h0]; rfl
    clear HV h0
    go_enter Tryz.func102, Tryz.ntmps102
    go_wp2
    go_ret
    exact ⟨by rw [HV2.out]; rfl, rfl⟩
  have t0 : ((q : Int) == 0) = false := by simp; omega
  by_cases h1 : q = 1
  · have HV2 : Hid (needOf m = 2) := by rw [h1] at HV; exact HV.out
    have z : bits .and .u8 (m : Int) 3 = 1 := by rw [z, h1]; rfl
    clear HV h1
    go_enter Tryz.func102, Tryz.ntmps102
    go_wp2
    go_ret
    exact ⟨by rw [HV2.out]; rfl, rfl⟩
  have t1 : ((q : Int) == 1) = false := by simp; omega
  by_cases h2 : q = 2
  · have HV2 : Hid (needOf m = 6) := by rw [h2] at HV; exact HV.out
    have z : bits .and .u8 (m : Int) 3 = 2 := by rw [z, h2]; rfl
    clear HV h2
    go_enter Tryz.func102, Tryz.ntmps102
    go_wp2
    go_ret
    exact ⟨by rw [HV2.out]; rfl, rfl⟩
  have t2 : ((q : Int) == 2) = false := by simp; omega
  have HV2 : Hid (needOf m = 1) := by show _ = _; rw [HV.out, if_neg h0, if_neg h1, if_neg h2]
  clear HV
  go_enter Tryz.func102, Tryz.ntmps102
  go_wp2
  go_ret
  exact ⟨by rw [HV2.out]; rfl, rfl⟩
theorem kids_cnt (l : List Nat) (j : Nat) (h : j < l.length) : ((l.take (j + 1)).filter fun k => decide (k ≠ 0)).length = ((l.take j).filter fun k => decide (k ≠ 0)).length + if l[j] ≠ 0 then 1 else 0 := by
  rw [List.take_succ_eq_append_getElem h, List.filter_append, List.length_append]
  congr 1
  by_cases hz : l[j] = 0 <;> simp [hz]
theorem kids_form {w : World} {P : Nat → Prop} {vk : Value} {l : List Nat} (h : SlAt w P vk (kidsV l)) : ∃ a cap, vk = .slice a l.length cap ∧ l.length ≤ cap ∧ ∀ j (hj : j < l.length), ∃ g off, a = some ⟨g, off, none⟩ ∧ P g ∧ w.cell? ⟨g, off + j, none⟩ = some (.int .u64 l[j]) := by
  obtain ⟨a, cap, h1, h2, h3⟩ := h.form
  have hlen : (kidsV l).length = l.length := List.length_map ..
  rw [hlen] at h1 h2
  refine ⟨a, cap, h1, h2, fun j hj => ?_⟩
  obtain ⟨g, off, e1, e2, _, e4⟩ := h3 j (.int .u64 l[j]) (by unfold kidsV; rw [List.getElem?_map, List.getElem?_eq_getElem hj]; rfl)
  exact ⟨g, off, e1, e2, e4⟩
theorem rcount_any (n : Nd) (vk : Value) (P : Nat → Prop) (w : World) (hk : SlAt w P vk (kidsV n.kids)) (hl : n.kids.length ≤ 1000000) :
    Calls Tryz.prog 104 #[.agg (ndC (n, vk)).toArray] w fun e w' => e = .returned (.int .i64 (cntOf n)) ∧ Mod (fun _ => False) w w' := by
  obtain ⟨W, hW⟩ : ∃ W, w.alloc (.cells (ndC (n, vk)).toArray 83) = W := ⟨_, rfl⟩
  have hbk : W.heap[w.heap.size]? = some (ndO n vk) := by subst hW; exact new_at _ _
  have m0 : Mod (fun _ => False) w W := by subst hW; exact (Mod.refl _ w).alloc _
  obtain ⟨a, cap, rfl, hc1, hc2⟩ := kids_form (hk.mod m0 fun _ _ _ x => x)
  have c12 : W.cell? ⟨w.heap.size, 12, none⟩ = some (.slice a n.kids.length cap) := (cell_of hbk 12).trans rfl
  clear hbk hk
  go_enter Tryz.func104, Tryz.ntmps104
  go_wp2
  go_loop [3, 4] (fun c i => ∃ j q : Nat, j ≤ n.kids.length ∧ i = .int .i64 j ∧ c = .int .i64 q ∧ q ≤ j ∧ Hid (((n.kids.take j).filter fun k => decide (k ≠ 0)).length = q)) (fun _ i => n.kids.length - (intOf i).toNat)
  case atStart => exact ⟨0, 0, Nat.zero_le _, rfl, rfl, Nat.le_refl _, rfl⟩
  case round =>
    obtain ⟨j, q, hj, rfl, rfl, hq, HC⟩ := hrel
    by_cases hlt : j < n.kids.length
    · have t1 : decide ((j : Int) < (n.kids.length : Int)) = true := by simp; omega
      have t1' : decide (j < n.kids.length) = true := by simp; omega
      obtain ⟨g, off, rfl, _, e0⟩ := hc2 j hlt
      have i1 : (0 : Int) ≤ (j : Int) := by omega
      have i2 : (j : Int) < (n.kids.length : Int) := by omega
      have i3 : (n.kids.length : Int) ≤ (cap : Int) := by omega
      have hs := kids_cnt n.kids j hlt
      generalize n.kids[j] = k at *
      by_cases hk0 : k = 0
      · have t2 : ((k : Int) != 0) = false := by simp [hk0]
        rw [if_neg (by simp [hk0]), Nat.add_zero] at hs
        have HC2 := Lib.hid (hs.trans HC.out)
        clear hs hk0 HC
        go_wp2
        go_round
        case rel => exact ⟨j + 1, q, hlt, by go_num, rfl, by omega, HC2.out⟩
        case measure => simp [intOf]; omega
      · have t2 : ((k : Int) != 0) = true := by simp [hk0]
        rw [if_pos hk0] at hs
        have HC2 : Hid (((n.kids.take (j + 1)).filter fun k => decide (k ≠ 0)).length = q + 1) := by show _ = _; rw [hs, HC.out]
        clear hs hk0 HC
        go_wp2
        go_round
        case rel => exact ⟨j + 1, q + 1, hlt, by go_num, by go_num, by omega, HC2.out⟩
        case measure => simp [intOf]; omega
    · obtain rfl : j = n.kids.length := by omega
      have t1 : decide ((n.kids.length : Int) < (n.kids.length : Int)) = false := by simp
      have t1' : decide (n.kids.length < n.kids.length) = false := by simp
      rw [List.take_length] at HC
      have HV : Hid (cntOf n = q) := HC.out
      clear HC
      go_wp2
      go_ret
      exact ⟨by rw [HV.out]; rfl, m0⟩
end Go.Proofs.YtkcnbbjmkkaolaaGreatDoor
namespace Go.Proofs.YtkcnbbjmkkaolaaGreatDoor
open Go.RowKit

theorem getD_push_false (l : Array Bool) (j : Nat) : (l.push false).getD j false = l.getD j false := by
  simp only [Array.getD_eq_getD_getElem?, Array.getElem?_push]
  by_cases h : j = l.size
  · subst h; simp
  · rw [if_neg h]
theorem getD_push_lt (l : Array Bool) (x : Bool) (j : Nat) (d : Bool) (h : j < l.size) : (l.push x).getD j d = l.getD j d := by
  simp only [Array.getD_eq_getD_getElem?, Array.getElem?_push]
  rw [if_neg (by omega)]

theorem ready_push (md : Region.Mode) (ops : Array Oper) (o : Oper) (listed : Array Bool) (hs : listed.size = ops.size) :
    Region.ready md (ops.push o) (listed.push false) = Region.ready md ops listed ++ if (o.after.all fun e => !Region.binds md e || listed.getD e.on false) = true then [ops.size] else [] := by
  unfold Region.ready
  rw [Array.size_push, List.range_succ, List.filter_append]
  congr 1
  · refine List.filter_congr fun i hi => ?_
    have hi' : i < ops.size := List.mem_range.1 hi
    rw [getD_push_lt _ _ _ _ (by omega), Array.getElem?_push, if_neg (by omega)]
    simp only [getD_push_false]
  · rw [List.filter_cons, List.filter_nil, Array.getElem?_push, if_pos rfl]
    have h1 : (listed.push false).getD ops.size true = false := by
      rw [Array.getD_eq_getD_getElem?, Array.getElem?_push, if_pos hs.symm]; rfl
    simp only [getD_push_false, h1, Bool.not_false, Bool.true_and, Option.map_some, Option.getD_some]
theorem ready_all (md : Region.Mode) (ops : Array Oper) (listed : Array Bool) (h : ∀ i, i < ops.size → listed.getD i true = true) : Region.ready md ops listed = [] := by
  unfold Region.ready
  rw [List.filter_eq_nil_iff]
  intro i hi
  rw [h i (List.mem_range.1 hi)]
  simp

section
variable {P : Program} {md : Region.Mode} {ops : Array Oper} {o : Oper} {C : World → Prop} {Q : Act → Prop} {Q' : Exit → Act → World → Prop}

theorem least_un : ∀ (n : Nat) (p : Nat → Bool), (¬ ∀ i, i < n → p i = true) → ∃ i, i < n ∧ p i = false ∧ ∀ j, j < i → p j = true
  | 0, _, h => absurd (fun i hi => absurd hi (Nat.not_lt_zero i)) h
  | n + 1, p, h => by
    by_cases h0 : ∀ i, i < n → p i = true
    · refine ⟨n, Nat.lt_succ_self n, ?_, h0⟩
      rw [Bool.eq_false_iff]
      intro hp
      exact h fun i hi => by rcases Nat.lt_succ_iff_lt_or_eq.1 hi with hi | rfl; exact h0 i hi; exact hp
    · obtain ⟨i, h1, h2, h3⟩ := least_un n p h0
      exact ⟨i, by omega, h2, h3⟩
end
end Go.Proofs.YtkcnbbjmkkaolaaGreatDoor
namespace Go.Proofs.YtkcnbbjmkkaolaaGreatDoor
open Go.RowKit

/-- o comes up behind all of ops alone: each is named by it, or by one that stands behind -/
def lastB2 (md : Region.Mode) (ops : Array Oper) (o : Oper) : Bool :=
  ((List.range ops.size).all fun i => (o.after.any fun e => Region.binds md e && e.on == i) || ((List.range ops.size).any fun j => decide (i < j) && match ops[j]? with | some oj => oj.after.any fun e => Region.binds md e && e.on == i | none => false)) && (o.after.all fun e => decide (e.on < ops.size)) && o.guard.isNone &&
    (List.range ops.size).all fun i => match ops[i]? with
      | some oi => (oi.after.all fun e => decide (e.on < i)) && (match oi.guard with | none => true | some (g, _) => decide (g < ops.size))
      | none => true
/-- what is listed has all that it names listed -/
def Inv2 (md : Region.Mode) (ops : Array Oper) (listed : Array Bool) : Prop := ∀ j oj, ops[j]? = some oj → listed.getD j true = true → ∀ e ∈ oj.after, Region.binds md e = true → e.on < ops.size → listed.getD e.on true = true

section
variable {P : Program} {md : Region.Mode} {ops : Array Oper} {o : Oper} {C : World → Prop} {Q : Act → Prop} {Q' : Exit → Act → World → Prop}

theorem qOp_push2 {i : Nat} {K : Act → Prop} {a : Act} (hi : i < ops.size) (hL : lastB2 md ops o = true) (h : qOp P ops C i K a) : qOp P (ops.push o) C i K a := by
  have h0 : ops[i]? = some ops[i] := Array.getElem?_eq_getElem hi
  unfold qOp at *
  rw [Array.getElem?_push, if_neg (by omega)]
  simp only [h0] at h ⊢
  have hw : Region.wanted ops[i] (yielded (ops.push o) a.tmps) = Region.wanted ops[i] (yielded ops a.tmps) := by
    unfold Region.wanted
    cases hg : ops[i].guard with
    | none => rfl
    | some p =>
      obtain ⟨g, b⟩ := p
      simp only [lastB2, Bool.and_eq_true, List.all_eq_true, List.mem_range] at hL
      have h3 := hL.2 i hi
      rw [h0] at h3
      simp only [hg, Bool.and_eq_true, decide_eq_true_eq] at h3
      simp only [yielded]
      rw [Array.getElem?_push, if_neg (by omega)]
  rw [hw]
  exact h

theorem ready_some2 (hL : lastB2 md ops o = true) (listed : Array Bool) (hs : listed.size = ops.size) (hA : ¬ ∀ i, i < ops.size → listed.getD i true = true) : Region.ready md ops listed ≠ [] := by
  simp only [lastB2, Bool.and_eq_true, List.all_eq_true, List.mem_range] at hL
  obtain ⟨i, h1, h2, h3⟩ := least_un ops.size (fun i => listed.getD i true) hA
  have hm : i ∈ Region.ready md ops listed := by
    have h0 : ops[i]? = some ops[i] := Array.getElem?_eq_getElem h1
    have hwf := hL.2 i h1
    rw [h0] at hwf
    simp only [Bool.and_eq_true] at hwf
    unfold Region.ready
    rw [List.mem_filter, List.mem_range]
    refine ⟨h1, ?_⟩
    rw [h2, h0]
    simp only [Bool.not_false, Bool.true_and, Option.map_some, Option.getD_some]
    rw [Array.all_eq_true']
    intro e he
    have h4 := Array.all_eq_true'.1 hwf.1 e he
    simp only [decide_eq_true_eq] at h4
    have h5 := h3 e.on h4
    simp only [Array.getD_eq_getD_getElem?] at h5 ⊢
    rw [Array.getElem?_eq_getElem (by omega)] at h5 ⊢
    simp only [Option.getD_some] at h5 ⊢
    rw [h5, Bool.or_true]
  intro h
  rw [h] at hm
  cases hm
theorem wpAny_last2 (hL : lastB2 md ops o = true) (hQ : ∀ a w, C w → Q a → ∀ K : Act → World → Prop, (∀ a w, Q' .normal a w → K a w) → o.wp P a w K Q')
    (fuel : Nat) (listed : Array Bool) (a : Act) (w : World) (hs : listed.size = ops.size) (hw : C w) (hA : ∀ i, i < ops.size → listed.getD i true = true) (h : Q a) : wpAny P md (ops.push o) Q' (fuel + 1) (listed.push false) a w := by
  simp only [lastB2, Bool.and_eq_true, List.all_eq_true, List.mem_range] at hL
  obtain ⟨⟨⟨_, hlt⟩, hgd⟩, _⟩ := hL
  have hr : Region.ready md (ops.push o) (listed.push false) = [ops.size] := by
    rw [ready_push _ _ _ _ hs, ready_all md ops listed hA, if_pos, List.nil_append]
    rw [Array.all_eq_true']
    intro e he
    have h1 := Array.all_eq_true'.1 hlt e he
    simp only [decide_eq_true_eq] at h1
    have h2 := hA e.on h1
    simp only [Array.getD_eq_getD_getElem?] at h2 ⊢
    rw [Array.getElem?_eq_getElem (by omega)] at h2 ⊢
    simp only [Option.getD_some] at h2 ⊢
    rw [h2, Bool.or_true]
  refine ⟨fun h0 => (by rw [hr] at h0; cases h0), fun i hi => ?_⟩
  rw [hr] at hi
  obtain rfl : i = ops.size := by simpa using hi
  unfold wpOp
  rw [Array.getElem?_push, if_pos rfl]
  have hwt : Region.wanted o (yielded (ops.push o) a.tmps) = true := by
    unfold Region.wanted
    rw [Option.isNone_iff_eq_none.1 hgd]
  simp only [hwt, if_true]
  refine .inl (hQ a w hw h _ fun a' w' hn => wpAny_done (ready_all _ _ _ fun i hi => ?_) hn fuel)
  rw [Array.size_push] at hi
  simp only [Array.getD_eq_getD_getElem?, Array.getElem?_setIfInBounds, Array.getElem?_push, Array.size_push]
  by_cases h1 : ops.size = i
  · subst h1
    rw [if_pos rfl, if_pos (by omega)]; rfl
  · rw [if_neg h1, if_neg (by omega)]
    have h2 := hA i (by omega)
    simpa only [Array.getD_eq_getD_getElem?] using h2

theorem wpAny_then2 (hL : lastB2 md ops o = true) (hQ : ∀ a w, C w → Q a → ∀ K : Act → World → Prop, (∀ a w, Q' .normal a w → K a w) → o.wp P a w K Q') :
    ∀ (fuel : Nat) (listed : Array Bool) (a : Act) (w : World), listed.size = ops.size → Inv2 md ops listed → C w → wpAnyQ P md ops C Q fuel listed a → wpAny P md (ops.push o) Q' (fuel + 1) (listed.push false) a w := by
  have hL0 := hL
  simp only [lastB2, Bool.and_eq_true, List.all_eq_true, List.mem_range] at hL
  obtain ⟨⟨⟨hall, _⟩, _⟩, _⟩ := hL
  intro fuel
  induction fuel with
  | zero =>
    intro listed a w hs hI hw h
    by_cases hA : ∀ i, i < ops.size → listed.getD i true = true
    · exact wpAny_last2 hL0 hQ 0 listed a w hs hw hA h.2
    · exact absurd h.1 (ready_some2 hL0 listed hs hA)
  | succ fuel ih =>
    intro listed a w hs hI hw h
    by_cases hA : ∀ i, i < ops.size → listed.getD i true = true
    · exact wpAny_last2 hL0 hQ (fuel + 1) listed a w hs hw hA (h.1 (ready_all md ops listed hA))
    · have hne := ready_some2 hL0 listed hs hA
      have hr : Region.ready md (ops.push o) (listed.push false) = Region.ready md ops listed := by
        rw [ready_push _ _ _ _ hs, if_neg, List.append_nil]
        intro hh
        apply hA
        have key : ∀ n i, ops.size - i ≤ n → i < ops.size → listed.getD i true = true := by
          intro n
          induction n with
          | zero => intro i h1 h2; omega
          | succ n ihn =>
            intro i h1 h2
            rcases Bool.or_eq_true _ _ ▸ hall i h2 with hx | hx
            · obtain ⟨e, he, hb⟩ := Array.any_eq_true'.1 hx
              simp only [Bool.and_eq_true, beq_iff_eq] at hb
              have := Array.all_eq_true'.1 hh e he
              rw [hb.1, hb.2] at this
              simp only [Bool.not_true, Bool.false_or] at this
              simp only [Array.getD_eq_getD_getElem?] at this ⊢
              rw [Array.getElem?_eq_getElem (by omega)] at this ⊢
              exact this
            · obtain ⟨j, hj, hx⟩ := List.any_eq_true.1 hx
              have hj := List.mem_range.1 hj
              simp only [Bool.and_eq_true, decide_eq_true_eq] at hx
              obtain ⟨hij, hx⟩ := hx
              rw [Array.getElem?_eq_getElem hj] at hx
              simp only at hx
              obtain ⟨e, he, hb⟩ := Array.any_eq_true'.1 hx
              simp only [Bool.and_eq_true, beq_iff_eq] at hb
              have := hI j _ (Array.getElem?_eq_getElem hj) (ihn j (by omega) hj) e he hb.1 (by omega)
              rw [hb.2] at this
              exact this
        exact fun i hi => key _ i (Nat.le_refl _) hi
      refine ⟨fun h0 => absurd (hr ▸ h0) hne, fun i hi => ?_⟩
      rw [hr] at hi
      have hil : i < ops.size := List.mem_range.1 (List.mem_filter.1 hi).1
      have hset : (listed.push false).setIfInBounds i true = (listed.setIfInBounds i true).push false := by
        apply Array.ext_getElem?
        intro j
        simp only [Array.getElem?_push, Array.getElem?_setIfInBounds, Array.size_push, Array.size_setIfInBounds]
        by_cases hj : j = listed.size
        · rw [if_pos hj, if_neg (by omega), if_pos hj]
        · rw [if_neg hj, if_neg hj]
          by_cases hij : i = j
          · rw [if_pos hij, if_pos hij, if_pos (by omega), if_pos (by omega)]
          · rw [if_neg hij, if_neg hij]
      rw [hset]
      have hI2 : Inv2 md ops (listed.setIfInBounds i true) := by
        have hup : ∀ k, listed.getD k true = true → (listed.setIfInBounds i true).getD k true = true := by
          intro k hk
          simp only [Array.getD_eq_getD_getElem?, Array.getElem?_setIfInBounds] at hk ⊢
          split
          · split <;> rfl
          · exact hk
        intro j oj hj hlj e he hb hlt
        by_cases hji : j = i
        · subst hji
          have hrd := (List.mem_filter.1 hi).2
          simp only [Bool.and_eq_true] at hrd
          have h3 := hrd.2
          rw [hj] at h3
          simp only [Option.map_some, Option.getD_some] at h3
          have h4 := Array.all_eq_true'.1 h3 e he
          rw [hb] at h4
          simp only [Bool.not_true, Bool.false_or] at h4
          apply hup
          simp only [Array.getD_eq_getD_getElem?] at h4 ⊢
          rw [Array.getElem?_eq_getElem (by omega)] at h4 ⊢
          exact h4
        · refine hup _ (hI j oj hj ?_ e he hb hlt)
          simp only [Array.getD_eq_getD_getElem?, Array.getElem?_setIfInBounds] at hlj ⊢
          rw [if_neg (fun x => hji x.symm)] at hlj
          exact hlj
      exact wpOp_of_qOp hw (fun a' w' hw' hh => ih _ _ _ (by rw [Array.size_setIfInBounds]; exact hs) hI2 hw' hh) (qOp_push2 hil hL0 (h.2 i hi))
theorem wp_region_then2 {id k : Nat} {a : Act} {w : World} {ops : List Oper} (l : List Oper) (o : Oper) (hl : ops.take k = l) (ho : ops[k]? = some o) (hk : ops.length = k + 1) (hm : P.follows .mixedOrders = true) (hB : Region.lexB .any l.toArray = true) (hL : lastB2 .any l.toArray o = true)
    (h : wpQuiet P l.toArray (fun w' => ∃ n, w' = w.drewN n) (fun a' => ∀ w', (∃ n, w' = w.drewN n) → ∀ K : Act → World → Prop, (∀ a w, Q' .normal a w → K a w) → o.wp P a' w' K Q') l a) : (Code.region id ops.toArray true).wp P Q' a w := by
  have he : ops.toArray = l.toArray.push o := by
    rw [List.push_toArray, ← hl]
    congr 1
    apply List.ext_getElem?
    intro i
    rw [List.getElem?_append, List.length_take, List.getElem?_take]
    by_cases h1 : i < k
    · rw [if_pos (by omega), if_pos h1]
    · rw [if_neg (by omega)]
      by_cases h2 : i = k
      · subst h2
        rw [ho, show i - min i ops.length = 0 from by omega]; rfl
      · rw [List.getElem?_eq_none (by omega), List.getElem?_eq_none (by simp; omega)]
  rw [he]
  have hlen : l.length = k := by rw [← hl, List.length_take]; omega
  simp only [Region.lexB, Bool.and_eq_true] at hB
  refine wp_region_any hm ?_
  have h2 := wpAnyQ_lex (C := fun w' => ∃ n, w' = w.drewN n) (md := .any) hB.1 l 0 (Array.replicate l.toArray.size false) a (by simp) (by simpa using hB.2) h
  have hI0 : Inv2 .any l.toArray (Array.replicate l.toArray.size false) := by
    intro j oj hj hlj
    have hjl : j < l.toArray.size := (Array.getElem?_eq_some_iff.1 hj).1
    simp only [Array.getD_eq_getD_getElem?] at hlj
    rw [Array.getElem?_eq_getElem (by simpa using hjl)] at hlj
    simp at hlj
  have h3 := wpAny_then2 (Q' := Q') hL (fun a w' hw' hq K hK => hq w' hw' K hK) l.length _ a { w with drawn := w.drawn + 1 } (by simp) hI0 ⟨1, rfl⟩ h2
  rw [Array.size_push, List.size_toArray]
  rw [show Array.replicate (l.length + 1) false = (Array.replicate l.toArray.size false).push false from by simp [Array.replicate_succ]]
  exact h3
end
end Go.Proofs.YtkcnbbjmkkaolaaGreatDoor
namespace Go.Proofs.YtkcnbbjmkkaolaaGreatDoor
open Go.RowKit

theorem info_byteR : (Tryz.prog.info? 5).map (fun i => (i.zero, i.size, i.bytes)) = some (some (.int .u8 0), 1, 1) := by kernel_rfl
def zeroL (n : Nat) : List UInt8 := List.replicate n 0
theorem mkZ (N : Int) (n : Nat) (hN : N = n) (hn : n ≤ 100000) : ∀ w : World, (Instr.makeSlice 137 (.int .i64 N) (.int .i64 N)).run Tryz.prog w = .ok (.slice (some ⟨w.heap.size, 0, none⟩) n n) (w.alloc (.cells (bc (zeroL n)).toArray 5)) := by
  have h := make_row (P := Tryz.prog) 137 5 (.int .u8 0) 1 n Tryz.underlying137 info_byteR rfl (by omega) (by unfold maxLen; omega)
  have hz : (List.replicate n (Value.int .u8 0)) = bc (zeroL n) := by simp [bc, zeroL]
  rw [hz] at h
  rw [hN]
  exact h
set_option maxRecDepth 100000 in
theorem rsized_any (s : ByteArray) (n : Nat) (w : World) (hs : s.size ≤ 100000) (hn : n ≤ 100000) :
    Calls Tryz.prog 105 #[.string s, .int .i64 n] w fun e w' => e = .returned (.string (sizedB s n)) ∧ Mod (fun _ => False) w w' := by
  by_cases h : n ≤ s.size
  · have t1 : decide ((n : Int) ≤ (s.size : Int)) = true := by simp; omega
    have t1' : decide (n ≤ s.size) = true := by simp; omega
    have HV : Hid (sizedB s n = s.extract 0 n) := if_pos h
    have i0 : (0 : Int) ≤ (n : Int) := by omega
    have i1 : (n : Int) ≤ (s.size : Int) := by omega
    go_enter Tryz.func105, Tryz.ntmps105
    go_wp2
    go_ret
    exact ⟨by rw [HV.out]; rfl, Mod.refl _ _⟩
  · have t1 : decide ((n : Int) ≤ (s.size : Int)) = false := by simp; omega
    have t1' : decide (n ≤ s.size) = false := by simp; omega
    have HV : Hid (sizedB s n = s ++ bs (zeroL (n - s.size))) := if_neg h
    obtain ⟨k, hk⟩ : ∃ k, n - s.size = k := ⟨_, rfl⟩
    rw [hk] at HV
    have hmk := mkZ ((n : Int) - (s.size : Int)) k (by omega) (by omega)
    obtain ⟨W, hW⟩ : ∃ W, w.alloc (.cells (bc (zeroL k)).toArray 5) = W := ⟨_, rfl⟩
    have hb : W.heap[w.heap.size]? = some (.cells (bc (zeroL k)).toArray 5 (0, 0)) := by subst hW; exact new_at _ _
    have m0 : Mod (fun _ => False) w W := by subst hW; exact (Mod.refl _ w).alloc _
    have hcv : (convert 137 9 (.slice (some ⟨w.heap.size, 0, none⟩) k k)).run Tryz.prog W = .ok (.string (bs (zeroL k))) W :=
      conv_string W 137 9 5 w.heap.size 0 k (zeroL k) k (by simp [zeroL]) Tryz.underlying137 Tryz.underlying5 Tryz.underlying9 fun j hj => by
        rw [Nat.zero_add, cell_of hb, List.getElem?_toArray, bc_get, List.getElem?_eq_getElem hj]; rfl
    have hap : ¬ 9223372036854775807 < s.size + (bs (zeroL k)).size := by rw [bs_size]; simp [zeroL]; omega
    have HK := Lib.hid hk
    clear hb hk h
    go_enter Tryz.func105, Tryz.ntmps105

    go_wp2
    go_ret
    exact ⟨by rw [HV.out]; rfl, m0⟩
/-- a kid of a name, by places -/
def kidFrom (L : List Nd) (name : ByteArray) (l : List Nat) : Int := match kidGo L name l with
  | some n => atI L n.path
  | none => -1
theorem kidFrom_hit {L : List Nd} {name : ByteArray} {k : Nat} {r : List Nat} {n : Nd} (h : look L k = some n) (hn : n.name = name) : kidFrom L name (k :: r) = atI L k := by
  unfold kidFrom kidGo
  rw [h]
  simp only
  rw [if_pos hn]
  simp only
  rw [(look_some h).2]
theorem kidFrom_miss {L : List Nd} {name : ByteArray} {k : Nat} {r : List Nat} (h : look L k = none ∨ ∃ n, look L k = some n ∧ n.name ≠ name) : kidFrom L name (k :: r) = kidFrom L name r := by
  rcases h with h | ⟨n, h, hn⟩
  · unfold kidFrom
    conv => lhs; unfold kidGo
    rw [h]
  · unfold kidFrom
    conv => lhs; unfold kidGo
    rw [h]
    simp only
    rw [if_neg hn]
set_option maxHeartbeats 1000000 in
theorem rkid_any (b g cap : Nat) (T : Tr) (vks : Nat → Value) (i : Nat) (d : Nd) (name : ByteArray) (w : World) (h : RV w b g cap T vks) (hl : T.L.length ≤ 1024) (hi : T.L[i]? = some d) (hkl : d.kids.length ≤ 1000000) :
    Calls Tryz.prog 100 #[.pointer (some ⟨b, 0, none⟩), .int .i64 i, .string name] w fun e w' => e = .returned (.int .i64 (kidFrom T.L name d.kids)) ∧ w = w' := by
  have c0 := h.c0
  have hcap := h.cap
  have hil : i < T.L.length := (List.getElem?_eq_some_iff.1 hi).1
  obtain ⟨ka, kc, hvk, hc1, hc2⟩ := kids_form (h.kid i d hi)
  have e12 : w.cell? ⟨g, i * 13 + 12, none⟩ = some (.slice ka d.kids.length kc) := by rw [← hvk]; exact h.el i d hi 12 _ rfl
  have i1 : (0 : Int) ≤ (i : Int) := by omega
  have i2 : (i : Int) < (T.L.length : Int) := by omega
  have i3 : (T.L.length : Int) ≤ (cap : Int) := by omega
  have hA := fun p => at_any b g cap T vks p w h hl
  have H := Lib.hid h
  clear h hvk
  go_enter Tryz.func100, Tryz.ntmps100
  go_wp2
  go_loop [6, 7, 8] (fun _ k _ => ∃ j : Nat, j ≤ d.kids.length ∧ k = .int .i64 j ∧ Hid (kidFrom T.L name d.kids = kidFrom T.L name (d.kids.drop j))) (fun _ k _ => d.kids.length - (intOf k).toNat)
  case atStart => exact ⟨0, Nat.zero_le _, rfl, rfl⟩
  case round =>
    obtain ⟨j, hj, rfl, HK⟩ := hrel
    by_cases hlt : j < d.kids.length
    · have t1 : decide ((j : Int) < (d.kids.length : Int)) = true := by simp; omega
      have t1' : decide (j < d.kids.length) = true := by simp; omega
      have hdr : d.kids.drop j = d.kids[j] :: d.kids.drop (j + 1) := List.drop_eq_getElem_cons hlt
      obtain ⟨kg, ko, rfl, _, e0⟩ := hc2 j hlt
      rw [hdr] at HK
      generalize d.kids[j] = k at *
      have j1 : (0 : Int) ≤ (j : Int) := by omega
      have j2 : (j : Int) < (d.kids.length : Int) := by omega
      have j3 : (d.kids.length : Int) ≤ (kc : Int) := by omega
      have hAk := hA k
      cases hlk : look T.L k with
      | none =>
        rw [atI_none hlk] at hAk
        have HK2 := Lib.hid (HK.out.trans (kidFrom_miss (.inl hlk)))
        clear hlk HK hdr
        go_wp2_with fail
        refine hAk.mono ?_
        rintro e w1 ⟨rfl, rfl⟩
        clear hAk
        go_wp2
        go_round
        case rel => exact ⟨j + 1, hlt, by go_num, HK2.out⟩
        case measure => simp [intOf]; omega
      | some n =>
        obtain ⟨q, hq, hqn, hql⟩ := look_get hlk
        rw [atI_some hq] at hAk
        have t3 : decide (0 ≤ (q : Int)) = true := by simp
        have e10 : w.cell? ⟨g, q * 13 + 10, none⟩ = some (.string n.name) := H.out.el q n hqn 10 _ rfl
        have q1 : (0 : Int) ≤ (q : Int) := by omega
        have q2 : (q : Int) < (T.L.length : Int) := by omega
        by_cases hnm : n.name = name
        · have t2 : (n.name.toList == name.toList) = true := by rw [str_beq]; simp [hnm]
          have HV : Hid (kidFrom T.L name d.kids = q) := (HK.out.trans (kidFrom_hit hlk hnm)).trans (atI_some hq)
          clear hlk HK hdr hq hqn hnm
          go_wp2_with fail
          refine hAk.mono ?_
          rintro e w1 ⟨rfl, rfl⟩
          clear hAk
          go_wp2
          go_ret
          exact ⟨by rw [HV.out]; rfl, rfl⟩
        · have t2 : (n.name.toList == name.toList) = false := by rw [str_beq]; simp [hnm]
          have HK2 := Lib.hid (HK.out.trans (kidFrom_miss (.inr ⟨n, hlk, hnm⟩)))
          clear hlk HK hdr hq hqn hnm
          go_wp2_with fail
          refine hAk.mono ?_
          rintro e w1 ⟨rfl, rfl⟩
          clear hAk
          go_wp2
          go_round
          case rel => exact ⟨j + 1, hlt, by go_num, HK2.out⟩
          case measure => simp [intOf]; omega
    · obtain rfl : j = d.kids.length := by omega
      have t1 : decide ((d.kids.length : Int) < (d.kids.length : Int)) = false := by simp
      have t1' : decide (d.kids.length < d.kids.length) = false := by simp
      rw [List.drop_length] at HK
      have HV : Hid (kidFrom T.L name d.kids = -1) := HK.out
      clear HK
      go_wp2
      go_ret
      exact ⟨by rw [HV.out]; rfl, rfl⟩
end Go.Proofs.YtkcnbbjmkkaolaaGreatDoor
namespace Go.Proofs.YtkcnbbjmkkaolaaGreatDoor
open Go.RowKit

theorem st_len (s : St) : s.cells.length = 13 := rfl
theorem st_one (s : St) : ∀ u ∈ s.cells, u.oneCell' = true := by
  intro u hu
  simp only [St.cells, List.mem_cons, List.not_mem_nil, or_false] at hu
  rcases hu with rfl | rfl | rfl | rfl | rfl | rfl | rfl | rfl | rfl | rfl | rfl | rfl | rfl <;> rfl
def stO (s : St) : Obj := .cells s.cells.toArray 37 (0, 0)
theorem st_all (s : St) : s.cells.toArray.all (·.oneCell') = true := by
  rw [Array.all_eq_true_iff_forall_mem]; intro v hv; exact st_one s v (by simpa using hv)
theorem nd_rng {w : World} {b : Nat} {n : Nd} {vk : Value} (h : w.heap[b]? = some (ndO n vk)) : w.rangeAt b 0 (ndC (n, vk)) := fun j u hu => by
  rw [Nat.zero_add, cell_of h, List.getElem?_toArray]; exact hu
theorem st_rng {w : World} {b : Nat} {s : St} (h : w.heap[b]? = some (stO s)) : w.rangeAt b 0 s.cells := fun j u hu => by
  rw [Nat.zero_add, cell_of h, List.getElem?_toArray]; exact hu
theorem results_cell1 {fn : Func} {a : Tmp} {ty : TypeId} (h : fn.results = #[.cell a ty]) (tmps : Array Value) (P : Program) (w : World) (b : Nat) (cs : List Value) (d : TypeDesc) (ha : tmps.getD a undef = .pointer (some ⟨b, 0, none⟩))
    (hc : w.rangeAt b 0 cs) (hu : P.underlying ty = some d) (hd : d.isRow = true) (hi : (P.info? ty).map (·.size) = some cs.length) :
    (results fn tmps).run P w = .ok (.agg cs.toArray) w := by
  have hl := run_loadVar_mid w b 0 ty cs d hc hu hd hi
  have ha' : tmps[a]?.getD undef = .pointer (some ⟨b, 0, none⟩) := by simpa using ha
  simp [results, h, ha', asAddr, hl]
theorem results_cell2 {fn : Func} {a t : Tmp} {ty : TypeId} (h : fn.results = #[.cell a ty, .tmp t]) (tmps : Array Value) (P : Program) (w : World) (b : Nat) (cs : List Value) (d : TypeDesc) (ha : tmps.getD a undef = .pointer (some ⟨b, 0, none⟩))
    (hc : w.rangeAt b 0 cs) (hu : P.underlying ty = some d) (hd : d.isRow = true) (hi : (P.info? ty).map (·.size) = some cs.length) :
    (results fn tmps).run P w = .ok (.tuple #[.agg cs.toArray, tmps.getD t undef]) w := by
  have hl := run_loadVar_mid w b 0 ty cs d hc hu hd hi
  have ha' : tmps[a]?.getD undef = .pointer (some ⟨b, 0, none⟩) := by simpa using ha
  simp [results, h, ha', asAddr, hl]
/-- a file's stat ahead of its directory's bit -/
def stat0 (n : Nd) : St := ⟨0, 0, if n.dir then 128 else 0, n.ver, n.path, n.perm, n.atime, n.mtime, n.data.size, n.name, n.uid, n.gid, n.muid⟩
theorem or_dir : ∀ p : Fin 512, p.val ||| 2147483648 = p.val + 2147483648 := of_decide_eq_true (by kernel_rfl)
set_option maxHeartbeats 2000000 in
set_option maxRecDepth 100000 in
theorem rstat_any (n : Nd) (vk : Value) (w : World) (hok : n.Ok) :
    Calls Tryz.prog 50 #[.agg (ndC (n, vk)).toArray] w fun e w' => e = .returned (.agg (statOf n).cells.toArray) ∧ Mod (fun _ => False) w w' := by
  obtain ⟨W, hW⟩ : ∃ W, w.alloc (.cells (ndC (n, vk)).toArray 83) = W := ⟨_, rfl⟩
  have hbk : W.heap[w.heap.size]? = some (ndO n vk) := by subst hW; exact new_at _ _
  have m0 : Mod (fun _ => False) w W := by subst hW; exact (Mod.refl _ w).alloc _
  obtain ⟨V, hV⟩ : ∃ V, W.alloc (.cells #[.int .u16 0, .int .u32 0, .int .u8 0, .int .u32 0, .int .u64 0, .int .u32 0, .int .u32 0, .int .u32 0, .int .u64 0, .string { data := #[] }, .string { data := #[] }, .string { data := #[] }, .string { data := #[] }] 37) = V := ⟨_, rfl⟩
  have hv : V.heap[W.heap.size]? = some (stO St.none) := by subst hV; exact new_at _ _
  have m1 : Mod (fun _ => False) W V := by subst hV; exact (Mod.refl _ W).alloc _
  have hbk := (m1.block _ (lt_of hbk) (fun x => x)).trans hbk
  have hsz : W.heap.size < V.heap.size := lt_of hv
  have hsw : w.heap.size < W.heap.size := by rw [← hW, World.size_alloc]; omega
  have M1 := Lib.hid (m0.trans m1)
  have HB := Lib.hid hbk
  have HV := Lib.hid hv
  have c1 : V.cell? ⟨w.heap.size, 1, none⟩ = some (.bool n.dir) := (cell_of hbk 1).trans rfl
  have c3 : V.cell? ⟨w.heap.size, 3, none⟩ = some (.int .u32 n.perm) := (cell_of hbk 3).trans rfl
  have c4 : V.cell? ⟨w.heap.size, 4, none⟩ = some (.string n.uid) := (cell_of hbk 4).trans rfl
  have c5 : V.cell? ⟨w.heap.size, 5, none⟩ = some (.string n.gid) := (cell_of hbk 5).trans rfl
  have c6 : V.cell? ⟨w.heap.size, 6, none⟩ = some (.string n.muid) := (cell_of hbk 6).trans rfl
  have c7 : V.cell? ⟨w.heap.size, 7, none⟩ = some (.int .u32 n.atime) := (cell_of hbk 7).trans rfl
  have c8 : V.cell? ⟨w.heap.size, 8, none⟩ = some (.int .u32 n.mtime) := (cell_of hbk 8).trans rfl
  have c10 : V.cell? ⟨w.heap.size, 10, none⟩ = some (.string n.name) := (cell_of hbk 10).trans rfl
  have c11 : V.cell? ⟨w.heap.size, 11, none⟩ = some (.string n.data) := (cell_of hbk 11).trans rfl
  have hrow : ∀ U, Mod (fun _ => False) V U → U.rangeAt w.heap.size 0 (ndC (n, vk)) := fun U hU => nd_rng ((hU.block _ (lt_of HB.out) (fun x => x)).trans HB.out)
  have hq := fun U => rqid_any n vk U
  unfold qiC at hq
  have hdl := hok.data
  have hu64 : IntKind.u64.wrap (n.data.size : Int) = n.data.size := by rw [IntKind.wrap_u64]; omega
  have hnl : (ndC (n, vk)).length = 13 := rfl
  clear hbk hv m0 m1
  go_enter Tryz.func50, Tryz.ntmps50
  go_upto_region 1 with (fail)
  clear hW hV
  go_cut [3] from 4 to 24 (fun p wc => ∃ q, p = .pointer (some ⟨q, 0, none⟩) ∧ Hid (wc.heap[q]? = some (stO (stat0 n))) ∧ V.heap.size ≤ q ∧ Hid (Mod (fun _ => False) V wc))
  case first =>
    refine wp_region_held_drew (S := fun w' => Hid (Mod (fun _ => False) V w')) (by kernel_rfl) (Lib.hid (Mod.refl (fun _ => False) V).drew) (fun hHeld => ?_)
    refine hTy 0 rfl (by kernel_rfl) (fun _ _ _ h => h) (by assumption) (yieldsIf_load_mid (by rfl) 83 (.tmp 1) rfl w.heap.size 0 rfl (ndC (n, vk)) _ (fun wH hSw => hrow wH hSw.out) Tryz.underlying83 rfl (by kernel_rfl)) ?_
    try simp only [gA, gB, gC, Act.put, sA, sB, sC]
    refine hT 2 rfl (fun _ _ => by go_simp; all_goals with_reducible rfl) ?_
    try simp only [gA, gB, gC, Act.put, sA, sB, sC]
    refine hT 3 rfl (fun wH hSw => by have cH := keepN hSw.out c3; clear hSw; go_simp; all_goals with_reducible rfl) ?_
    try simp only [gA, gB, gC, Act.put, sA, sB, sC]
    refine hT 4 rfl (fun _ _ => by go_simp; all_goals with_reducible rfl) ?_
    try simp only [gA, gB, gC, Act.put, sA, sB, sC]
    refine hT 5 rfl (fun wH hSw => by have cH := keepN hSw.out c7; clear hSw; go_simp; all_goals with_reducible rfl) ?_
    try simp only [gA, gB, gC, Act.put, sA, sB, sC]
    refine hT 6 rfl (fun _ _ => by go_simp; all_goals with_reducible rfl) ?_
    try simp only [gA, gB, gC, Act.put, sA, sB, sC]
    refine hT 7 rfl (fun wH hSw => by have cH := keepN hSw.out c8; clear hSw; go_simp; all_goals with_reducible rfl) ?_
    try simp only [gA, gB, gC, Act.put, sA, sB, sC]
    refine hT 8 rfl (fun _ _ => by go_simp; all_goals with_reducible rfl) ?_
    try simp only [gA, gB, gC, Act.put, sA, sB, sC]
    refine hT 9 rfl (fun wH hSw => by have cH := keepN hSw.out c11; clear hSw; go_simp; all_goals with_reducible rfl) ?_
    try simp only [gA, gB, gC, Act.put, sA, sB, sC]
    refine hT 10 rfl (fun _ _ => by go_simp; all_goals with_reducible rfl) ?_
    try simp only [gA, gB, gC, Act.put, sA, sB, sC]
    refine hT 11 rfl (fun _ _ => by go_simp; all_goals with_reducible rfl) ?_
    try simp only [gA, gB, gC, Act.put, sA, sB, sC]
    refine hT 12 rfl (fun _ _ => by go_simp; all_goals with_reducible rfl) ?_
    try simp only [gA, gB, gC, Act.put, sA, sB, sC]
    refine hT 13 rfl (fun wH hSw => by have cH := keepN hSw.out c10; clear hSw; go_simp; all_goals with_reducible rfl) ?_
    try simp only [gA, gB, gC, Act.put, sA, sB, sC]
    refine hT 14 rfl (fun _ _ => by go_simp; all_goals with_reducible rfl) ?_
    try simp only [gA, gB, gC, Act.put, sA, sB, sC]
    refine hT 15 rfl (fun wH hSw => by have cH := keepN hSw.out c4; clear hSw; go_simp; all_goals with_reducible rfl) ?_
    try simp only [gA, gB, gC, Act.put, sA, sB, sC]
    refine hT 16 rfl (fun _ _ => by go_simp; all_goals with_reducible rfl) ?_
    try simp only [gA, gB, gC, Act.put, sA, sB, sC]
    refine hT 17 rfl (fun wH hSw => by have cH := keepN hSw.out c5; clear hSw; go_simp; all_goals with_reducible rfl) ?_
    try simp only [gA, gB, gC, Act.put, sA, sB, sC]
    refine hT 18 rfl (fun _ _ => by go_simp; all_goals with_reducible rfl) ?_
    try simp only [gA, gB, gC, Act.put, sA, sB, sC]
    refine hT 19 rfl (fun wH hSw => by have cH := keepN hSw.out c6; clear hSw; go_simp; all_goals with_reducible rfl) ?_
    try simp only [gA, gB, gC, Act.put, sA, sB, sC]
    refine wpAnyH_ready (rs := [1, 21]) (by kernel_rfl) (by simp) ?_
    refine AllReadyH.cons rfl (fun K hK => ?_) ?_
    rotate_left
    refine AllReadyH.cons rfl (fun K hK => ?_) AllReadyH.nil
    · go_simp
      have qb := new_at V.drew (.cells #[.int .u16 0, .int .u32 0, .int .u8 0, .int .u32 0, .int .u64 0, .int .u32 0, .int .u32 0, .int .u32 0, .int .u64 0, .string { data := #[] }, .string { data := #[] }, .string { data := #[] }, .string { data := #[] }] 37)
      have mA := hHeld.out.alloc (.cells #[.int .u16 0, .int .u32 0, .int .u8 0, .int .u32 0, .int .u64 0, .int .u32 0, .int .u32 0, .int .u32 0, .int .u64 0, .string { data := #[] }, .string { data := #[] }, .string { data := #[] }, .string { data := #[] }] 37)
      refine hK.out _ _ (Lib.hid (mA)) ?_; clear hK K hHeld; intro hHeld
      try simp only [gA, gB, gC, Act.put, sA, sB, sC]
      refine hR1 1 rfl fun K hK => ?_
      go_simp
      refine (hq _).mono ?_
      rintro e w4 ⟨rfl, m4⟩
      have qb := (m4.block _ (lt_of qb) (fun x => x)).trans qb
      have hHg : V.heap.size ≤ V.heap.size := Nat.le_refl _
      refine hK.out _ _ (Lib.hid (hHeld.out.trans m4)) ?_; clear hK K hHeld; intro hHeld
      try simp only [gA, gB, gC, Act.put, sA, sB, sC]
      refine hT 20 rfl (fun _ _ => by go_simp; all_goals with_reducible rfl) ?_
      try simp only [gA, gB, gC, Act.put, sA, sB, sC]
      refine hR1 22 rfl fun K hK => ?_
      refine Eq.mpr (if_pos ?hwant) ?_
      case hwant => rfl
      refine wp_store_row 37 (.tmp 3) (.tmp 24) rfl V.heap.size (stat0 n).cells.toArray rfl rfl 37 _ qb (by kernel_rfl) rfl (st_all _) ?_
      have hb9 := setRow_heap _ V.heap.size _ (stat0 n).cells.toArray 37 _ qb
      refine hK.out _ _ (Lib.hid (hHeld.out.trans' (mod_setRow _ V.heap.size (stat0 n).cells.toArray) fun k hk e => by omega)) ?_; clear hK K hHeld; intro hHeld
      try simp only [gA, gB, gC, Act.put, sA, sB, sC]
      refine wpAnyH_done (by kernel_rfl) ?_ _
      go_wp2
      go_meet
      case rel => exact ⟨V.heap.size, rfl, hb9, hHg, hHeld.out⟩
    · go_simp
      refine (hq _).mono ?_
      rintro e w4 ⟨rfl, m4⟩
      have hHg : V.heap.size ≤ w4.heap.size := m4.size
      refine hK.out _ _ (Lib.hid (hHeld.out.trans m4)) ?_; clear hK K hHeld; intro hHeld
      try simp only [gA, gB, gC, Act.put, sA, sB, sC]
      refine hT 20 rfl (fun _ _ => by go_simp; all_goals with_reducible rfl) ?_
      try simp only [gA, gB, gC, Act.put, sA, sB, sC]
      refine hR1 21 rfl fun K hK => ?_
      go_simp
      have qb := new_at w4 (.cells #[.int .u16 0, .int .u32 0, .int .u8 0, .int .u32 0, .int .u64 0, .int .u32 0, .int .u32 0, .int .u32 0, .int .u64 0, .string { data := #[] }, .string { data := #[] }, .string { data := #[] }, .string { data := #[] }] 37)
      have mA := hHeld.out.alloc (.cells #[.int .u16 0, .int .u32 0, .int .u8 0, .int .u32 0, .int .u64 0, .int .u32 0, .int .u32 0, .int .u32 0, .int .u64 0, .string { data := #[] }, .string { data := #[] }, .string { data := #[] }, .string { data := #[] }] 37)
      refine hK.out _ _ (Lib.hid (mA)) ?_; clear hK K hHeld; intro hHeld
      try simp only [gA, gB, gC, Act.put, sA, sB, sC]
      refine hR1 22 rfl fun K hK => ?_
      refine Eq.mpr (if_pos ?hwant) ?_
      case hwant => rfl
      refine wp_store_row 37 (.tmp 3) (.tmp 24) rfl w4.heap.size (stat0 n).cells.toArray rfl rfl 37 _ qb (by kernel_rfl) rfl (st_all _) ?_
      have hb9 := setRow_heap _ w4.heap.size _ (stat0 n).cells.toArray 37 _ qb
      refine hK.out _ _ (Lib.hid (hHeld.out.trans' (mod_setRow _ w4.heap.size (stat0 n).cells.toArray) fun k hk e => by omega)) ?_; clear hK K hHeld; intro hHeld
      try simp only [gA, gB, gC, Act.put, sA, sB, sC]
      refine wpAnyH_done (by kernel_rfl) ?_ _
      go_wp2
      go_meet
      case rel => exact ⟨w4.heap.size, rfl, hb9, hHg, hHeld.out⟩
  case rest =>
    obtain ⟨q, rfl, HQ, hqg, HM⟩ := hcut
    have HVc := Lib.hid ((HM.out.block _ (lt_of HV.out) (fun x => x)).trans HV.out)
    have d1 := keepN HM.out c1
    have e3 : wc.cell? ⟨q, 5, none⟩ = some (.int .u32 n.perm) := (cell_of HQ.out 5).trans rfl
    have f3 : wc.frozen? ⟨q, 5, none⟩ = false := free_of HQ.out 5
    clear c1 c3 c4 c5 c6 c7 c8 c10 c11 hrow hq HB
    have hor : bits .or .u32 (n.perm : Int) 2147483648 = (n.perm : Int) + 2147483648 := by
      have h := u32_or_nat n.perm 2147483648 (by have := hok.perm; omega) (by decide)
      rw [or_dir ⟨n.perm, hok.perm⟩] at h
      rw [show (n.perm : Int) + 2147483648 = ((n.perm + 2147483648 : Nat) : Int) by omega]
      exact h
    cases hd : n.dir with
    | true =>
      rw [hd] at d1
      have hst : Obj.cells ((stat0 n).cells.toArray.setIfInBounds 5 (.int .u32 ((n.perm : Int) + 2147483648))) 37 (0, 0) = stO (statOf n) := by
        rw [show (n.perm : Int) + 2147483648 = ((n.perm + 2147483648 : Nat) : Int) by omega]; unfold stO statOf stat0 modeOf; rw [hd]; rfl
      obtain ⟨W5, hW5⟩ : ∃ W5, wc.setCell ⟨q, 5, none⟩ (.int .u32 ((n.perm : Int) + 2147483648)) = W5 := ⟨_, rfl⟩
      have hb5 : W5.heap[q]? = some (stO (statOf n)) := by rw [← hW5, ← hst]; exact heap_set HQ.out 5 _
      have m5 : Mod (· = q) wc W5 := by rw [← hW5]; exact Mod.set1 _ _ _ _
      have hv5 := (m5.block _ (lt_of HVc.out) (fun e => by omega)).trans HVc.out
      have M5 : Hid (Mod (fun _ => False) w W5) := (M1.out.trans HM.out).trans' m5 fun k hk e => by have := M1.out.size; omega
      have HV5 := Lib.hid hv5
      have hln := st_len (statOf n)
      have HB5 := Lib.hid hb5
      clear hst hb5 m5 hv5 HVc HQ
      go_upto_region 4 with (fail)
      refine wp_region_lit ?_
      refine wpList_load_mid rfl 37 (.tmp 3) rfl q 0 rfl (statOf n).cells _ (st_rng HB5.out) Tryz.underlying37 rfl (by kernel_rfl) ?_
      refine wpl_store_row rfl 37 (.tmp 2) (.tmp 31) rfl rfl W.heap.size (statOf n).cells rfl rfl 37 _ HV5.out rfl (st_one _) (by kernel_rfl) ?_
      intro V9 hv9 mv9
      refine wpList_nil ?_
      have MV : Hid (Mod (fun _ => False) w V9) := (M5.out).trans' mv9 fun k hk e => by omega
      go_wp2
      refine bodyPost_ret (results_cell1 rfl _ _ V9 W.heap.size (statOf n).cells _ rfl (st_rng hv9) Tryz.underlying37 rfl (by kernel_rfl)) rfl ⟨rfl, MV.out⟩
    | false =>
      rw [hd] at d1
      have hst : stO (stat0 n) = stO (statOf n) := by unfold statOf stat0 modeOf; rw [hd]; rfl
      have hb5 : wc.heap[q]? = some (stO (statOf n)) := by rw [← hst]; exact HQ.out
      have HB5 := Lib.hid hb5
      have M5 := Lib.hid (M1.out.trans HM.out)
      clear hst HQ hb5 e3 f3
      go_upto_region 4 with (fail)
      refine wp_region_lit ?_
      refine wpList_load_mid rfl 37 (.tmp 3) rfl q 0 rfl (statOf n).cells _ (st_rng HB5.out) Tryz.underlying37 rfl (by kernel_rfl) ?_
      refine wpl_store_row rfl 37 (.tmp 2) (.tmp 31) rfl rfl W.heap.size (statOf n).cells rfl rfl 37 _ HVc.out rfl (st_one _) (by kernel_rfl) ?_
      intro V9 hv9 mv9
      refine wpList_nil ?_
      have MV : Hid (Mod (fun _ => False) w V9) := (M5.out).trans' mv9 fun k hk e => by omega
      go_wp2
      refine bodyPost_ret (results_cell1 rfl _ _ V9 W.heap.size (statOf n).cells _ rfl (st_rng hv9) Tryz.underlying37 rfl (by kernel_rfl)) rfl ⟨rfl, MV.out⟩
end Go.Proofs.YtkcnbbjmkkaolaaGreatDoor
namespace Go.Proofs.YtkcnbbjmkkaolaaGreatDoor
open Go.RowKit

theorem RV.elem {w : World} {b g cap : Nat} {T : Tr} {vks : Nat → Value} (h : RV w b g cap T vks) {i : Nat} {n : Nd} (hi : T.L[i]? = some n) : w.rangeAt g (i * 13) (ndC (n, vks i)) := fun j u hu => h.el i n hi j u hu
def Okn (T : Tr) : Prop := ∀ n ∈ T.L, n.Ok
theorem okn_at {T : Tr} (h : Okn T) {i : Nat} {n : Nd} (hi : T.L[i]? = some n) : n.Ok := h n (List.mem_of_getElem? hi)
set_option maxHeartbeats 1000000 in
set_option maxRecDepth 100000 in
theorem rStat_any (b g cap : Nat) (T : Tr) (vks : Nat → Value) (p : Nat) (w : World) (h : RV w b g cap T vks) (hl : T.L.length ≤ 1024) (hok : Okn T) :
    Calls Tryz.prog 36 #[.pointer (some ⟨b, 0, none⟩), .int .u64 p] w fun e w' => e = .returned (.tuple #[.agg (statT T p).1.cells.toArray, .int .i64 (statT T p).2]) ∧ Mod (fun _ => False) w w' := by
  obtain ⟨V, hV⟩ : ∃ V, w.alloc (.cells #[.int .u16 0, .int .u32 0, .int .u8 0, .int .u32 0, .int .u64 0, .int .u32 0, .int .u32 0, .int .u32 0, .int .u64 0, .string { data := #[] }, .string { data := #[] }, .string { data := #[] }, .string { data := #[] }] 37) = V := ⟨_, rfl⟩
  have hv : V.heap[w.heap.size]? = some (stO St.none) := by subst hV; exact new_at _ _
  have m0 : Mod (fun _ => False) w V := by subst hV; exact (Mod.refl _ w).alloc _
  have hR := h.mod m0
  have hA := at_any b g cap T vks p V hR hl
  have HV := Lib.hid hv
  have M0 := Lib.hid m0
  have HS : Hid (statT T p = match look T.L p with | none => (St.none, 180) | some n => (statOf n, 0)) := rfl
  have c0 := hR.c0
  have hcap := h.cap
  have HR := Lib.hid hR
  clear h hv m0 hR
  cases hlk : look T.L p with
  | none =>
    rw [atI_none hlk] at hA
    have HS2 : Hid (statT T p = (St.none, 180)) := by show _ = _; rw [HS.out, hlk]
    clear HS hlk
    go_enter Tryz.func36, Tryz.ntmps36
    go_wp2_with fail
    refine hA.mono ?_
    rintro e w1 ⟨rfl, rfl⟩
    clear hA hV
    go_upto_region 3 with (fail)
    refine wp_region_lit ?_
    refine wpList_plain rfl fun K hK => ?_
    go_simp
    refine hK _ _ ?_
    clear hK K
    refine wpl_store_row rfl 37 (.tmp 4) (.tmp 12) rfl rfl w.heap.size St.none.cells rfl rfl 37 _ HV.out rfl (st_one _) (by kernel_rfl) ?_
    intro V9 hv9 mv9
    refine wpList_plain rfl fun K hK => ?_
    go_simp
    refine hK _ _ ?_
    clear hK K
    refine wpList_nil ?_
    have MV : Hid (Mod (fun _ => False) w V9) := M0.out.trans' mv9 fun k hk e => by omega
    go_wp2
    refine bodyPost_ret (results_cell2 rfl _ _ V9 w.heap.size St.none.cells _ rfl (st_rng (s := St.none) hv9) Tryz.underlying37 rfl (by kernel_rfl)) rfl ⟨by rw [HS2.out]; rfl, MV.out⟩
  | some n =>
    obtain ⟨i, hi, hn, hil⟩ := look_get hlk
    rw [atI_some hi] at hA
    have t1 : decide ((i : Int) < 0) = false := by simp
    have HS2 : Hid (statT T p = (statOf n, 0)) := by show _ = _; rw [HS.out, hlk]
    have hre := HR.out.elem hn
    have hst := rstat_any n (vks i) V (okn_at hok hn)
    have i1 : (0 : Int) ≤ (i : Int) := by omega
    have i2 : (i : Int) < (T.L.length : Int) := by omega
    have i3 : (T.L.length : Int) ≤ (cap : Int) := by omega
    have hln := ndC_len (n, vks i)
    clear HS hlk hi hn
    go_enter Tryz.func36, Tryz.ntmps36
    go_wp2_with fail
    refine hA.mono ?_
    rintro e w1 ⟨rfl, rfl⟩
    clear hA hV
    go_wp2_with (refine wpList_load_mid rfl 83 (.tmp 18) rfl g (i * 13) rfl (ndC (n, vks i)) _ hre Tryz.underlying83 rfl (by kernel_rfl) ?_)
    refine hst.mono ?_
    rintro e w2 ⟨rfl, m2⟩
    have HV2 := Lib.hid ((m2.block _ (lt_of HV.out) (fun x => x)).trans HV.out)
    clear hst hre
    have hsl := st_len (statOf n)
    go_wp2_with (refine wpl_store_row rfl 37 (.tmp 4) (.tmp 20) rfl rfl w.heap.size (statOf n).cells rfl rfl 37 _ HV2.out rfl (st_one _) (by kernel_rfl) ?_; intro V9 hv9 mv9)
    have MV : Hid (Mod (fun _ => False) w V9) := (M0.out.trans m2).trans' mv9 fun k hk e => by omega
    refine bodyPost_ret (results_cell2 rfl _ _ V9 w.heap.size (statOf n).cells _ rfl (st_rng hv9) Tryz.underlying37 rfl (by kernel_rfl)) rfl ⟨by rw [HS2.out]; rfl, MV.out⟩
theorem rParent_any (b g cap : Nat) (T : Tr) (vks : Nat → Value) (p : Nat) (w : World) (h : RV w b g cap T vks) (hl : T.L.length ≤ 1024) :
    Calls Tryz.prog 37 #[.pointer (some ⟨b, 0, none⟩), .int .u64 p] w fun e w' => e = .returned (.tuple #[.int .u64 (parentT T p).1, .int .i64 (parentT T p).2]) ∧ w = w' := by
  have hA := at_any b g cap T vks p w h hl
  have HS : Hid (parentT T p = match look T.L p with | none => (0, 180) | some n => (n.parent, 0)) := rfl
  have c0 := h.c0
  have hcap := h.cap
  have HR := Lib.hid h
  clear h
  cases hlk : look T.L p with
  | none =>
    rw [atI_none hlk] at hA
    have HS2 : Hid (parentT T p = (0, 180)) := by show _ = _; rw [HS.out, hlk]
    clear HS hlk
    go_enter Tryz.func37, Tryz.ntmps37
    go_wp2_with fail
    refine hA.mono ?_
    rintro e w1 ⟨rfl, rfl⟩
    go_wp2
    go_ret2
    exact ⟨by rw [HS2.out]; rfl, rfl⟩
  | some n =>
    obtain ⟨i, hi, hn, hil⟩ := look_get hlk
    rw [atI_some hi] at hA
    have t1 : decide ((i : Int) < 0) = false := by simp
    have HS2 : Hid (parentT T p = (n.parent, 0)) := by show _ = _; rw [HS.out, hlk]
    have e9 : w.cell? ⟨g, i * 13 + 9, none⟩ = some (.int .u64 n.parent) := HR.out.el i n hn 9 _ rfl
    have i1 : (0 : Int) ≤ (i : Int) := by omega
    have i2 : (i : Int) < (T.L.length : Int) := by omega
    have i3 : (T.L.length : Int) ≤ (cap : Int) := by omega
    clear HS hlk hi hn
    go_enter Tryz.func37, Tryz.ntmps37
    go_wp2_with fail
    refine hA.mono ?_
    rintro e w1 ⟨rfl, rfl⟩
    clear hA
    go_wp2
    go_ret2
    exact ⟨by rw [HS2.out]; rfl, rfl⟩
theorem runt_any (w : World) : Calls Tryz.prog 14 #[] w fun e w' => e = .returned (.agg St.un.cells.toArray) ∧ Mod (fun _ => False) w w' := by
  go_enter Tryz.func14, Tryz.ntmps14
  go_wp2
  refine bodyPost_ret (v := .agg St.un.cells.toArray) ?_ rfl ⟨rfl, (Mod.refl _ w).alloc _⟩
  simp [results, Tryz.f14, go_sem]
  rfl
theorem munt_any (w : World) : Calls Tryz.prog 13 #[] w fun e w' => e = .returned (.agg St.un.cells.toArray) ∧ Mod (fun _ => False) w w' := by
  go_enter Tryz.func13, Tryz.ntmps13
  go_wp2
  refine bodyPost_ret (v := .agg St.un.cells.toArray) ?_ rfl ⟨rfl, (Mod.refl _ w).alloc _⟩
  simp [results, Tryz.f13, go_sem]
  rfl
end Go.Proofs.YtkcnbbjmkkaolaaGreatDoor
namespace Go.Proofs.YtkcnbbjmkkaolaaGreatDoor
open Go.RowKit

end Go.Proofs.YtkcnbbjmkkaolaaGreatDoor
namespace Go.Proofs.YtkcnbbjmkkaolaaGreatDoor
open Go.RowKit

end Go.Proofs.YtkcnbbjmkkaolaaGreatDoor
namespace Go.Proofs.YtkcnbbjmkkaolaaGreatDoor

def mkE (x : ByteArray) (i : Nat) : Ent := ⟨i, readP x, readN x⟩
def entsF : List ByteArray → Nat → List Ent
  | [], _ => []
  | x :: r, i => if x = freeB then entsF r (i + 1) else mkE x i :: entsF r (i + 1)
def Apart (a b : Ent) : Prop := a.name ≠ b.name ∧ a.path ≠ b.path
def Fine (xs : List ByteArray) : Prop := ∀ x ∈ xs, x = freeB ∨ readOk x = true
theorem hasN_false {l : List Ent} {n : ByteArray} : hasN l n = false ↔ ∀ e ∈ l, e.name ≠ n := by simp [hasN]
theorem hasP_false {l : List Ent} {p : Nat} : hasP l p = false ↔ ∀ e ∈ l, e.path ≠ p := by simp [hasP]
theorem goE_spec : ∀ (xs : List ByteArray) (i : Nat) (acc l : List Ent), acc.Pairwise Apart →
    (goE xs i acc = some l ↔ Fine xs ∧ (acc ++ entsF xs i).Pairwise Apart ∧ l = acc ++ entsF xs i) := by
  intro xs
  induction xs with
  | nil =>
    intro i acc l ha
    simp only [goE, entsF, List.append_nil]
    constructor
    · intro h; cases h; exact ⟨fun x h => (by cases h), ha, rfl⟩
    · rintro ⟨_, _, rfl⟩; rfl
  | cons x r ih =>
    intro i acc l ha
    by_cases hf : x = freeB
    · have e1 : goE (x :: r) i acc = goE r (i + 1) acc := by rw [goE, stepE, if_pos hf]
      have e2 : entsF (x :: r) i = entsF r (i + 1) := by rw [entsF, if_pos hf]
      rw [e1, e2, ih _ _ _ ha]
      constructor
      · rintro ⟨h1, h2, h3⟩
        exact ⟨fun z hz => by rcases List.mem_cons.1 hz with rfl | hz; exact Or.inl hf; exact h1 z hz, h2, h3⟩
      · rintro ⟨h1, h2, h3⟩
        exact ⟨fun z hz => h1 z (List.mem_cons_of_mem _ hz), h2, h3⟩
    · have e2 : acc ++ entsF (x :: r) i = (acc ++ [mkE x i]) ++ entsF r (i + 1) := by rw [entsF, if_neg hf, List.append_assoc]; rfl
      by_cases hc : readOk x = true ∧ hasN acc (readN x) = false ∧ hasP acc (readP x) = false
      · have e1 : goE (x :: r) i acc = goE r (i + 1) (acc ++ [mkE x i]) := by rw [goE, stepE, if_neg hf, if_pos hc]; rfl
        have ha2 : (acc ++ [mkE x i]).Pairwise Apart := by
          rw [List.pairwise_append]
          refine ⟨ha, List.pairwise_singleton _ _, ?_⟩
          intro a hA b hB
          rw [List.mem_singleton] at hB
          subst hB
          exact ⟨hasN_false.1 hc.2.1 a hA, hasP_false.1 hc.2.2 a hA⟩
        rw [e1, e2, ih _ _ _ ha2]
        constructor
        · rintro ⟨h1, h2, h3⟩
          exact ⟨fun z hz => by rcases List.mem_cons.1 hz with rfl | hz; exact Or.inr hc.1; exact h1 z hz, h2, h3⟩
        · rintro ⟨h1, h2, h3⟩
          exact ⟨fun z hz => h1 z (List.mem_cons_of_mem _ hz), h2, h3⟩
      · have e1 : goE (x :: r) i acc = none := by rw [goE, stepE, if_neg hf, if_neg hc]
        rw [e1, e2]
        refine ⟨fun h => (by cases h), ?_⟩
        rintro ⟨h1, h2, _⟩
        refine absurd ⟨?_, ?_, ?_⟩ hc
        · exact (h1 x List.mem_cons_self).resolve_left hf
        · have := (List.pairwise_append.1 (List.pairwise_append.1 h2).1).2.2
          exact hasN_false.2 fun e he => (this e he _ (List.mem_singleton.2 rfl)).1
        · have := (List.pairwise_append.1 (List.pairwise_append.1 h2).1).2.2
          exact hasP_false.2 fun e he => (this e he _ (List.mem_singleton.2 rfl)).2
theorem listS_some {s : ByteArray} {l : List Ent} : listS s = some l ↔ sizeOk s = true ∧ Fine (slotsL s) ∧ (entsF (slotsL s) 0).Pairwise Apart ∧ l = entsF (slotsL s) 0 := by
  unfold listS
  by_cases h : sizeOk s = true
  · rw [if_pos h, goE_spec _ _ _ _ List.Pairwise.nil]
    simp only [List.nil_append]
    exact ⟨fun k => ⟨h, k⟩, fun k => k.2⟩
  · rw [if_neg h]
    exact ⟨fun k => (by cases k), fun k => absurd k.1 h⟩

theorem mem_ents {e : Ent} : ∀ {xs : List ByteArray} {i : Nat}, e ∈ entsF xs i ↔ ∃ k x, xs[k]? = some x ∧ x ≠ freeB ∧ e = mkE x (i + k) := by
  intro xs
  induction xs with
  | nil =>
    intro i
    simp [entsF]
  | cons x r ih =>
    intro i
    rw [entsF]
    split
    · rename_i hf
      rw [ih]
      constructor
      · rintro ⟨k, y, h1, h2, rfl⟩
        exact ⟨k + 1, y, by rw [List.getElem?_cons_succ]; exact h1, h2, by rw [show i + 1 + k = i + (k + 1) from by omega]⟩
      · rintro ⟨k, y, h1, h2, rfl⟩
        cases k with
        | zero => rw [List.getElem?_cons_zero] at h1; cases h1; exact absurd hf h2
        | succ k => exact ⟨k, y, by rw [List.getElem?_cons_succ] at h1; exact h1, h2, by rw [show i + 1 + k = i + (k + 1) from by omega]⟩
    · rename_i hf
      rw [List.mem_cons, ih]
      constructor
      · rintro (rfl | ⟨k, y, h1, h2, rfl⟩)
        · exact ⟨0, x, List.getElem?_cons_zero, hf, rfl⟩
        · exact ⟨k + 1, y, by rw [List.getElem?_cons_succ]; exact h1, h2, by rw [show i + 1 + k = i + (k + 1) from by omega]⟩
      · rintro ⟨k, y, h1, h2, rfl⟩
        cases k with
        | zero => rw [List.getElem?_cons_zero] at h1; cases h1; exact Or.inl rfl
        | succ k => exact Or.inr ⟨k, y, by rw [List.getElem?_cons_succ] at h1; exact h1, h2, by rw [show i + 1 + k = i + (k + 1) from by omega]⟩

def Uniq (xs : List ByteArray) : Prop := ∀ (i j : Nat) (x y : ByteArray), xs[i]? = some x → xs[j]? = some y → x ≠ freeB → y ≠ freeB → (readN x = readN y ∨ readP x = readP y) → i = j
theorem apart_uniq : ∀ {xs : List ByteArray} {i : Nat}, (entsF xs i).Pairwise Apart ↔ Uniq xs := by
  intro xs
  induction xs with
  | nil =>
    intro i
    refine ⟨fun _ i j x y h => ?_, fun _ => List.Pairwise.nil⟩
    rw [List.getElem?_nil] at h
    cases h
  | cons a r ih =>
    intro i
    rw [entsF]
    split
    · rename_i hf
      rw [ih]
      constructor
      · intro hu k j x y hx hy hfx hfy h
        cases k with
        | zero => rw [List.getElem?_cons_zero] at hx; cases hx; exact absurd hf hfx
        | succ k =>
          cases j with
          | zero => rw [List.getElem?_cons_zero] at hy; cases hy; exact absurd hf hfy
          | succ j =>
            rw [List.getElem?_cons_succ] at hx hy
            rw [hu k j x y hx hy hfx hfy h]
      · intro hu k j x y hx hy hfx hfy h
        have := hu (k + 1) (j + 1) x y (by rw [List.getElem?_cons_succ]; exact hx) (by rw [List.getElem?_cons_succ]; exact hy) hfx hfy h
        omega
    · rename_i hf
      rw [List.pairwise_cons, ih]
      constructor
      · rintro ⟨ha, hu⟩ k j x y hx hy hfx hfy h
        cases k with
        | zero =>
          cases j with
          | zero => rfl
          | succ j =>
            rw [List.getElem?_cons_zero] at hx
            cases hx
            rw [List.getElem?_cons_succ] at hy
            have := ha _ (mem_ents.2 ⟨j, y, hy, hfy, rfl⟩)
            rcases h with h | h
            · exact absurd h this.1
            · exact absurd h this.2
        | succ k =>
          cases j with
          | zero =>
            rw [List.getElem?_cons_zero] at hy
            cases hy
            rw [List.getElem?_cons_succ] at hx
            have := ha _ (mem_ents.2 ⟨k, x, hx, hfx, rfl⟩)
            rcases h with h | h
            · exact absurd h.symm this.1
            · exact absurd h.symm this.2
          | succ j =>
            rw [List.getElem?_cons_succ] at hx hy
            rw [hu k j x y hx hy hfx hfy h]
      · intro hu
        constructor
        · intro e he
          obtain ⟨k, y, hy, hfy, rfl⟩ := mem_ents.1 he
          constructor
          · intro h
            have := hu 0 (k + 1) a y List.getElem?_cons_zero (by rw [List.getElem?_cons_succ]; exact hy) hf hfy (Or.inl h)
            omega
          · intro h
            have := hu 0 (k + 1) a y List.getElem?_cons_zero (by rw [List.getElem?_cons_succ]; exact hy) hf hfy (Or.inr h)
            omega
        · intro k j x y hx hy hfx hfy h
          have := hu (k + 1) (j + 1) x y (by rw [List.getElem?_cons_succ]; exact hx) (by rw [List.getElem?_cons_succ]; exact hy) hfx hfy h
          omega
/-- a slot in its place, or behind all -/
def putAt (xs : List ByteArray) (k : Nat) (y : ByteArray) : List ByteArray := if k < xs.length then xs.set k y else xs ++ [y]
theorem putAt_get {xs : List ByteArray} {k : Nat} {y : ByteArray} (hk : k ≤ xs.length) (j : Nat) : (putAt xs k y)[j]? = if j = k then some y else xs[j]? := by
  unfold putAt
  split
  · rename_i h
    rw [List.getElem?_set]
    by_cases e : j = k
    · subst e; simp [h]
    · rw [if_neg (Ne.symm e), if_neg e]
  · rename_i h
    have : k = xs.length := by omega
    subst this
    by_cases e : j = xs.length
    · subst e; simp
    · rw [if_neg e]
      by_cases e2 : j < xs.length
      · rw [List.getElem?_append_left e2]
      · rw [List.getElem?_eq_none (by simp; omega), List.getElem?_eq_none (by omega)]
theorem withS_size {s x : ByteArray} {k : Nat} (hs : s.size % 64 = 0) (hx : x.size = 64) : (withS s k x).size = if k < s.size / 64 then s.size else s.size + 64 := by
  unfold withS
  by_cases h : s.size ≤ k * 64
  · rw [if_pos h, ByteArray.size_append, hx, if_neg (by omega)]
  · rw [if_neg h, if_pos (by omega)]
    simp only [ByteArray.size_append, ByteArray.size_extract, hx]
    omega
theorem slotsL_with {s x : ByteArray} {k : Nat} (hs : s.size % 64 = 0) (hx : x.size = 64) (hk : k ≤ s.size / 64) : slotsL (withS s k x) = putAt (slotsL s) k x := by
  have hl := slotsL_length s
  apply List.ext_getElem?
  intro j
  rw [putAt_get (by omega)]
  have hz := withS_size (k := k) hs hx
  by_cases hj : j < (withS s k x).size / 64
  · rw [List.getElem?_eq_getElem (by rw [slotsL_length]; exact hj), slotsL_get]
    by_cases e : j = k
    · subst e
      rw [if_pos rfl]
      congr 1
      unfold slotAt withS
      by_cases h : s.size ≤ j * 64
      · rw [if_pos h]
        exact ByteArray.extract_append_eq_right (by omega) (by omega)
      · rw [if_neg h, ByteArray.append_assoc, ByteArray.extract_append, ByteArray.extract_append]
        have z1 : (s.extract 0 (j * 64)).size = j * 64 := by rw [ByteArray.size_extract]; omega
        rw [z1, hx, show j * 64 + 64 - j * 64 = 64 from by omega]
        simp only [Nat.sub_self, Nat.zero_sub]
        rw [ByteArray.extract_same, ByteArray.append_empty]
        have : (s.extract 0 (j * 64)).extract (j * 64) (j * 64 + 64) = ByteArray.empty := ByteArray.extract_eq_empty_iff.2 (by rw [z1]; omega)
        rw [this, ByteArray.empty_append]
        have h2 := ByteArray.extract_zero_size (b := x)
        rw [hx] at h2
        exact h2
    · rw [if_neg e]
      have hj2 : j < s.size / 64 := by
        by_cases h : k < s.size / 64
        · rw [hz, if_pos h] at hj; exact hj
        · rw [hz, if_neg h] at hj; omega
      rw [List.getElem?_eq_getElem (by rw [slotsL_length]; exact hj2), slotsL_get]
      congr 1
      unfold slotAt withS
      by_cases h : s.size ≤ k * 64
      · rw [if_pos h, ByteArray.extract_append]
        have : x.extract (j * 64 - s.size) (j * 64 + 64 - s.size) = ByteArray.empty := ByteArray.extract_eq_empty_iff.2 (by omega)
        rw [this, ByteArray.append_empty]
      · rw [if_neg h, ByteArray.append_assoc, ByteArray.extract_append, ByteArray.extract_append]
        have z1 : (s.extract 0 (k * 64)).size = k * 64 := by rw [ByteArray.size_extract]; omega
        rw [z1, hx]
        rcases Nat.lt_or_gt_of_ne e with h2 | h2
        · have a1 : x.extract (j * 64 - k * 64) (j * 64 + 64 - k * 64) = ByteArray.empty := ByteArray.extract_eq_empty_iff.2 (by omega)
          have a2 : (s.extract (k * 64 + 64) s.size).extract (j * 64 - k * 64 - 64) (j * 64 + 64 - k * 64 - 64) = ByteArray.empty := ByteArray.extract_eq_empty_iff.2 (by omega)
          rw [a1, a2, ByteArray.append_empty, ByteArray.append_empty, ByteArray.extract_extract]
          congr 1 <;> omega
        · have a1 : (s.extract 0 (k * 64)).extract (j * 64) (j * 64 + 64) = ByteArray.empty := ByteArray.extract_eq_empty_iff.2 (by rw [z1]; omega)
          have a2 : x.extract (j * 64 - k * 64) (j * 64 + 64 - k * 64) = ByteArray.empty := ByteArray.extract_eq_empty_iff.2 (by omega)
          rw [a1, a2, ByteArray.empty_append, ByteArray.empty_append, ByteArray.extract_extract]
          congr 1 <;> omega
  · rw [List.getElem?_eq_none (by rw [slotsL_length]; omega)]
    by_cases h : k < s.size / 64
    · rw [hz, if_pos h] at hj
      rw [if_neg (by omega), List.getElem?_eq_none (by omega)]
    · rw [hz, if_neg h] at hj
      rw [if_neg (by omega), List.getElem?_eq_none (by omega)]
theorem find_iff {l : List Ent} (h : l.Pairwise Apart) {n : ByteArray} {e : Ent} : findE l n = some e ↔ e ∈ l ∧ e.name = n := by
  unfold findE
  induction l with
  | nil => simp
  | cons a r ih =>
    rw [List.pairwise_cons] at h
    rw [List.find?_cons]
    by_cases hn : a.name = n
    · simp only [hn, decide_true]
      constructor
      · intro k; cases k; exact ⟨List.mem_cons_self, hn⟩
      · rintro ⟨h1, h2⟩
        rcases List.mem_cons.1 h1 with rfl | h1
        · rfl
        · exact absurd (hn.trans h2.symm) (h.1 e h1).1
    · simp only [hn, decide_false]
      rw [ih h.2, List.mem_cons]
      constructor
      · rintro ⟨h1, h2⟩; exact ⟨Or.inr h1, h2⟩
      · rintro ⟨h1 | h1, h2⟩
        · subst h1; exact absurd h2 hn
        · exact ⟨h1, h2⟩
end Go.Proofs.YtkcnbbjmkkaolaaGreatDoor
namespace Go.Proofs.YtkcnbbjmkkaolaaGreatDoor

structure IsDir (s : ByteArray) : Prop where
  size : s.size % 64 = 0 ∧ s.size ≤ 7168
  fine : Fine (slotsL s)
  uniq : Uniq (slotsL s)
def entsS (s : ByteArray) : List Ent := entsF (slotsL s) 0
theorem listS_iff {s : ByteArray} {l : List Ent} : listS s = some l ↔ IsDir s ∧ l = entsS s := by
  rw [listS_some, apart_uniq]
  have : sizeOk s = true ↔ (s.size % 64 = 0 ∧ s.size ≤ 7168) := by unfold sizeOk; rw [decide_eq_true_eq]
  rw [this]
  exact ⟨fun ⟨a, b, c, d⟩ => ⟨⟨a, b, c⟩, d⟩, fun ⟨⟨a, b, c⟩, d⟩ => ⟨a, b, c, d⟩⟩
theorem IsDir.list {s : ByteArray} (h : IsDir s) : listS s = some (entsS s) := listS_iff.2 ⟨h, rfl⟩
theorem IsDir.apart {s : ByteArray} (h : IsDir s) : (entsS s).Pairwise Apart := apart_uniq.2 h.uniq
theorem findS_some {s n : ByteArray} {e : Ent} (h : IsDir s) (hn : findE (entsS s) n = some e) : findS s n = ((e.slot : Int), e.path) := by
  unfold findS
  rw [h.list, Option.getD_some, hn]
theorem IsDir.find {s : ByteArray} (h : IsDir s) {e : Ent} (he : e ∈ entsS s) : findS s e.name = ((e.slot : Int), e.path) := findS_some h ((find_iff h.apart).2 ⟨he, rfl⟩)

/-- one slot is set -/
structure SetOk (s : ByteArray) (k : Nat) (y : ByteArray) : Prop where
  le : k ≤ s.size / 64
  lt : k < 112
  size : y.size = 64
  form : y = freeB ∨ readOk y = true
  apart : y ≠ freeB → ∀ e ∈ entsS s, e.slot ≠ k → e.name ≠ readN y ∧ e.path ≠ readP y
theorem IsDir.put {s y : ByteArray} {k : Nat} (h : IsDir s) (o : SetOk s k y) : IsDir (withS s k y) := by
  have hz := withS_size (k := k) h.size.1 o.size
  have hL := slotsL_with h.size.1 o.size o.le
  have hl := slotsL_length s
  have hk : k ≤ (slotsL s).length := by rw [hl]; exact o.le
  have hs := h.size
  have ho := o.le
  have hlt := o.lt
  refine ⟨?_, ?_, ?_⟩
  · rw [hz]
    split <;> omega
  · rw [hL]
    intro x hx
    obtain ⟨j, hj⟩ := List.mem_iff_getElem?.1 hx
    rw [putAt_get hk] at hj
    split at hj
    · cases hj; exact o.form
    · exact h.fine x (List.mem_of_getElem? hj)
  · rw [hL]
    intro i j x z hx hz' hfx hfz hxz
    rw [putAt_get hk] at hx hz'
    by_cases hi : i = k
    · rw [if_pos hi] at hx
      cases hx
      by_cases hj : j = k
      · omega
      · rw [if_neg hj] at hz'
        have hm : mkE z j ∈ entsS s := mem_ents.2 ⟨j, z, hz', hfz, by rw [Nat.zero_add]⟩
        have := o.apart hfx _ hm hj
        rcases hxz with e | e
        · exact absurd e.symm this.1
        · exact absurd e.symm this.2
    · rw [if_neg hi] at hx
      by_cases hj : j = k
      · rw [if_pos hj] at hz'
        cases hz'
        have hm : mkE x i ∈ entsS s := mem_ents.2 ⟨i, x, hx, hfx, by rw [Nat.zero_add]⟩
        have := o.apart hfz _ hm hi
        rcases hxz with e | e
        · exact absurd e this.1
        · exact absurd e this.2
      · rw [if_neg hj] at hz'
        exact h.uniq i j x z hx hz' hfx hfz hxz
end Go.Proofs.YtkcnbbjmkkaolaaGreatDoor
namespace Go.Proofs.YtkcnbbjmkkaolaaGreatDoor

def countS (s : ByteArray) : Nat := ((listS s).getD []).length
theorem IsDir.count {s : ByteArray} (h : IsDir s) : countS s = (entsS s).length := by unfold countS; rw [h.list, Option.getD_some]
end Go.Proofs.YtkcnbbjmkkaolaaGreatDoor
namespace Go.Proofs.YtkcnbbjmkkaolaaGreatDoor
open Go.RowKit

theorem badB_val (b : UInt8) : badB b = (decide ((b.toNat : Int) < 32) || (((b.toNat : Int) == 127) || ((b.toNat : Int) == 47))) := by
  unfold badB
  congr 1
  · simp; omega
  · congr 1 <;> (rw [Bool.eq_iff_iff]; simp; omega)
set_option maxHeartbeats 1000000 in
set_option maxRecDepth 100000 in
theorem rname_any (s : ByteArray) (w : World) (hs : s.size ≤ 1099511627776) (hT : Tabs w) :
    Calls Tryz.prog 34 #[.string s] w fun e w' => e = .returned (.bool (nameOk s)) ∧ Mod (fun _ => False) w w' := by
  have hV := fun U => valid_any s U (by omega)
  have hz : s.data.toList.length = s.size := Array.length_toList
  have hF : Hid ((s.size = 0 ∨ 55 < s.size ∨ s.data.toList = [46] ∨ s.data.toList = [46, 46] ∨ Lib.validD s.data.toList = false ∨ s.data.toList.any badB = true) → nameOk s = false) := by
    intro h
    rw [← Bool.not_eq_true]
    intro hn
    unfold nameOk at hn
    simp only [Bool.and_eq_true, decide_eq_true_eq] at hn
    obtain ⟨⟨n1, n2, n3, n4⟩, n5, n6⟩ := hn
    rcases h with h | h | h | h | h | h
    · omega
    · omega
    · exact n3 h
    · exact n4 h
    · rw [h] at n5; cases n5
    · rw [h] at n6; cases n6
  have hG : Hid (¬(s.size = 0 ∨ 55 < s.size ∨ s.data.toList = [46] ∨ s.data.toList = [46, 46] ∨ Lib.validD s.data.toList = false ∨ s.data.toList.any badB = true) → nameOk s = true) := by
    intro h
    simp only [not_or] at h
    obtain ⟨h1, h2, h3, h4, h5, h6⟩ := h
    unfold nameOk
    simp only [Bool.and_eq_true, decide_eq_true_eq]
    exact ⟨⟨by omega, by omega, h3, h4⟩, by simpa using h5, by simpa using h6⟩
  generalize nameOk s = R at *
  clear hz
  have e1 := toList_beq s (bs [46])
  have e2 := toList_beq s (bs [46, 46])
  rw [bs_data, show (bs [46]).toList = [46] from by rw [ByteArray.toList_eq]; rfl] at e1
  rw [bs_data, show (bs [46, 46]).toList = [46, 46] from by rw [ByteArray.toList_eq]; rfl] at e2
  by_cases c0 : s.size = 0
  · have t0 : decide ((s.size : Int) < 1) = true := by simp; omega
    clear hV hG e1 e2
    go_enter Tryz.func34, Tryz.ntmps34
    go_wp2
    go_ret
    exact ⟨by rw [hF.out (Or.inl c0)]; rfl, Mod.refl _ _⟩
  have t0 : decide ((s.size : Int) < 1) = false := by simp; omega
  by_cases c1 : 55 < s.size
  · have t1 : decide ((55 : Int) < (s.size : Int)) = true := by simp; omega
    clear hV hG e1 e2
    go_enter Tryz.func34, Tryz.ntmps34
    go_wp2
    go_ret
    exact ⟨by rw [hF.out (Or.inr (Or.inl c1))]; rfl, Mod.refl _ _⟩
  have t1 : decide ((55 : Int) < (s.size : Int)) = false := by simp; omega
  cases hvd : Lib.validD s.data.toList with
  | false =>
    rw [hvd] at hV
    clear hG
    go_enter Tryz.func34, Tryz.ntmps34
    go_wp2_with fail
    refine (hV _ hT).mono ?_
    rintro e w1 ⟨rfl, m1⟩
    go_wp2
    go_ret
    exact ⟨by rw [hF.out (by simp [hvd])]; rfl, m1⟩
  | true =>
  rw [hvd] at hV
  by_cases c2 : s.data.toList = [46]
  · rw [decide_eq_true c2] at e1
    clear hG e2
    go_enter Tryz.func34, Tryz.ntmps34
    go_wp2_with fail
    refine (hV _ hT).mono ?_
    rintro e w1 ⟨rfl, m1⟩
    go_wp2
    go_ret
    exact ⟨by rw [hF.out (Or.inr (Or.inr (Or.inl c2)))]; rfl, m1⟩
  rw [decide_eq_false c2] at e1
  by_cases c3 : s.data.toList = [46, 46]
  · rw [decide_eq_true c3] at e2
    clear hG
    go_enter Tryz.func34, Tryz.ntmps34
    go_wp2_with fail
    refine (hV _ hT).mono ?_
    rintro e w1 ⟨rfl, m1⟩
    go_wp2
    go_ret
    exact ⟨by rw [hF.out (Or.inr (Or.inr (Or.inr (Or.inl c3))))]; rfl, m1⟩
  rw [decide_eq_false c3] at e2
  have hG2 : Hid (s.data.toList.any badB = false → R = true) := by
    intro hb
    refine hG.out ?_
    rw [hb, hvd]
    simp only [Bool.false_eq_true, or_false, Bool.true_eq_false]
    intro h
    rcases h with h | h | h | h
    · exact c0 h
    · exact c1 h
    · exact c2 h
    · exact c3 h
  have hF : Hid (s.data.toList.any badB = true → R = false) := fun h => hF.out (by simp [h])
  have hany : ∀ k (h : k < s.size), (s.data.toList.take k).any badB = false → (s.data.toList.take (k + 1)).any badB = badB s.data[k] := by
    intro k h hb
    rw [take_snoc s k h, List.any_append, hb]
    simp
  clear c0 c1 c2 c3 hG hvd
  go_enter Tryz.func34, Tryz.ntmps34
  go_wp2_with fail
  refine (hV _ hT).mono ?_
  rintro e w1 ⟨rfl, m1⟩
  go_wp2
  go_loopw [2, 3] (fun r i wr => ∃ k : Nat, k ≤ s.size ∧ r = .bool false ∧ i = .int .i64 k ∧ Hid ((s.data.toList.take k).any badB = false) ∧ Hid (Mod (fun _ => False) w wr)) (fun _ i _ => s.size - (intOf i).toNat)
  case atStart => exact ⟨0, by omega, rfl, rfl, rfl, m1⟩
  case round =>
    obtain ⟨k, hk, rfl, rfl, HP, HM⟩ := hrel
    by_cases hlt : k < s.size
    · have t2 : decide ((k : Int) < (s.size : Int)) = true := by simp; omega
      have HA : Hid ((s.data.toList.take (k + 1)).any badB = badB s.data[k]) := hany k hlt HP.out
      have hbv : badB s.data[k] = (decide ((s[k].toNat : Int) < 32) || (((s[k].toNat : Int) == 127) || ((s[k].toNat : Int) == 47))) := badB_val s.data[k]
      have hall : Hid (badB s.data[k] = true → s.data.toList.any badB = true) := by
        intro hb
        rw [List.any_eq_true]
        exact ⟨s.data[k], by rw [Array.mem_toList_iff]; exact Array.getElem_mem hlt, hb⟩
      by_cases b1 : ((s[k].toNat : Int) < 32)
      · have u1 : decide ((s[k].toNat : Int) < 32) = true := by simp; omega
        have HB : Hid (badB s.data[k] = true) := by show _ = _; rw [hbv, u1]; rfl
        clear hbv hany
        go_wp2
        go_ret
        exact ⟨by rw [hF.out (hall.out HB.out)]; rfl, HM.out⟩
      have u1 : decide ((s[k].toNat : Int) < 32) = false := by simp; omega
      by_cases b2 : ((s[k].toNat : Int) = 127)
      · have u2 : ((s[k].toNat : Int) == 127) = true := by simp; omega
        have HB : Hid (badB s.data[k] = true) := by show _ = _; rw [hbv, u1, u2]; rfl
        clear hbv hany b2
        go_wp2
        go_ret
        exact ⟨by rw [hF.out (hall.out HB.out)]; rfl, HM.out⟩
      have u2 : ((s[k].toNat : Int) == 127) = false := by simp; omega
      by_cases b3 : ((s[k].toNat : Int) = 47)
      · have u3 : ((s[k].toNat : Int) == 47) = true := by simp; omega
        have HB : Hid (badB s.data[k] = true) := by show _ = _; rw [hbv, u1, u2, u3]; rfl
        clear hbv hany b2 b3
        go_wp2
        go_ret
        exact ⟨by rw [hF.out (hall.out HB.out)]; rfl, HM.out⟩
      have u3 : ((s[k].toNat : Int) == 47) = false := by simp; omega
      have HB : Hid ((s.data.toList.take (k + 1)).any badB = false) := by show _ = _; rw [HA.out, hbv, u1, u2, u3]; rfl
      clear hbv hany b1 b2 b3 hall
      go_wp2
      go_roundw
      case rel => exact ⟨k + 1, hlt, rfl, by go_num, HB, HM⟩
      case measure => simp [intOf]; omega
    · obtain rfl : k = s.size := by omega
      have t2 : decide ((s.size : Int) < (s.size : Int)) = false := by simp
      have HR : Hid (R = true) := hG2.out (by have := HP.out; rwa [take_all] at this)
      clear hany
      go_wp2
      go_ret
      exact ⟨by rw [HR.out]; rfl, HM.out⟩
end Go.Proofs.YtkcnbbjmkkaolaaGreatDoor
