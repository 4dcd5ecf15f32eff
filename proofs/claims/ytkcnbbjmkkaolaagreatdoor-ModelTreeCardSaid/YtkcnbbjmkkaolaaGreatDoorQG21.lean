/- A tree of files, plain: each file but the root is the kid of one directory, no two kids have one name, and going up one comes to the root.
   The law of the trees: going up one comes to the root; a file is in its parent's list.
   The law of the trees: a file is in its parent's list, once, alone with its name.
   The law ModelTree, walked. -/
import Derived.Test.YtkcnbbjmkkaolaaGreatDoorQG13
import Derived.Test.YtkcnbbjmkkaolaaGreatDoorQG18
import Derived.Test.YtkcnbbjmkkaolaaGreatDoorQG12
import Derived.Test.YtkcnbbjmkkaolaaGreatDoorQG00
set_option linter.unusedVariables false
set_option linter.unusedSimpArgs false
namespace Go.Proofs.YtkcnbbjmkkaolaaGreatDoor

theorem count_le_one {α : Type} (q : α → Bool) : ∀ {l : List α}, l.Nodup → (∀ a ∈ l, ∀ b ∈ l, q a = true → q b = true → a = b) → l.countP q ≤ 1
  | [], _, _ => Nat.zero_le _
  | x :: l, hn, h => by
    rw [List.countP_cons]
    have hn' := List.nodup_cons.1 hn
    by_cases hx : q x = true
    · rw [if_pos hx]
      have h0 : l.countP q = 0 := by
        rw [List.countP_eq_zero]
        intro a ha hq
        have := h x (List.mem_cons_self ..) a (List.mem_cons_of_mem _ ha) hx hq
        rw [this] at hn'
        exact hn'.1 ha
      omega
    · rw [if_neg hx]
      exact count_le_one q hn'.2 fun a ha b hb => h a (List.mem_cons_of_mem _ ha) b (List.mem_cons_of_mem _ hb)
def kidPs (d : Nd) : List Nat := d.kids.filter fun k => decide (k ≠ 0)
theorem kid_look {T : Tr} (h : WF T) {d : Nd} (hd : d ∈ T.L) {k : Nat} (hk : k ∈ kidPs d) : ∃ m, look T.L k = some m ∧ m ∈ T.L ∧ m.path = k ∧ m.parent = d.path ∧ k ≠ 1 := by
  unfold kidPs at hk
  rw [List.mem_filter] at hk
  obtain ⟨h1, h2⟩ := hk
  obtain ⟨m, hm, hp, h1'⟩ := h.kid d hd k h1 (by simpa using h2)
  obtain ⟨a, b⟩ := look_some hm
  exact ⟨m, hm, a, b, hp, h1'⟩
theorem kidPs_nodup {T : Tr} (h : WF T) {d : Nd} (hd : d ∈ T.L) : (kidPs d).Nodup := by
  rw [List.nodup_iff_count]
  intro k
  by_cases hk : k ∈ kidPs d
  · obtain ⟨m, hm, hmm, hp, hpar, h1⟩ := kid_look h hd hk
    have h2 := h.one m hmm (by rw [hp]; exact h1) d (by rw [hpar]; exact look_of h.rise hd)
    rw [hp] at h2
    have h3 : (kidPs d).count k ≤ d.kids.count k := List.Sublist.count_le _ List.filter_sublist
    omega
  · rw [List.count_eq_zero.2 hk]; exact Nat.zero_le _
/-- how a kid is told -/
def stK (L : List Nd) (k : Nat) : St := ((look L k).map statOf).getD St.none
theorem kidSts_eq (L : List Nd) (d : Nd) : kidSts L d = (kidPs d).map (stK L) := rfl
theorem stK_of {T : Tr} {k : Nat} {m : Nd} (hm : look T.L k = some m) : stK T.L k = statOf m := by unfold stK; rw [hm]; rfl
/-- how often a file is among a directory's kids -/
theorem kid_count {T : Tr} (h : WF T) {d x : Nd} (hd : d ∈ T.L) (hx : x ∈ T.L) : (kidSts T.L d).countP (fun s => s.qp == x.path) = if x.path ≠ 1 ∧ x.parent = d.path then 1 else 0 := by
  rw [kidSts_eq, List.countP_map]
  have hle : (kidPs d).countP ((fun s : St => s.qp == x.path) ∘ stK T.L) ≤ 1 := by
    refine count_le_one _ (kidPs_nodup h hd) fun a ha b hb h1 h2 => ?_
    obtain ⟨m, hm, _, hp, _⟩ := kid_look h hd ha
    obtain ⟨m2, hm2, _, hp2, _⟩ := kid_look h hd hb
    simp only [Function.comp, stK_of hm, stK_of hm2] at h1 h2
    have h1 := eq_of_beq h1
    have h2 := eq_of_beq h2
    have e1 : m.path = x.path := h1
    have e2 : m2.path = x.path := h2
    omega
  by_cases hc : x.path ≠ 1 ∧ x.parent = d.path
  · rw [if_pos hc]
    have hmem : x.path ∈ kidPs d := by
      unfold kidPs
      rw [List.mem_filter]
      refine ⟨kid_mem h hd hx hc.1 hc.2, ?_⟩
      have := (h.lo x hx).1
      simp; omega
    have h0 : 0 < (kidPs d).countP ((fun s : St => s.qp == x.path) ∘ stK T.L) := by
      rw [List.countP_pos_iff]
      refine ⟨x.path, hmem, ?_⟩
      simp only [Function.comp, stK_of (look_of h.rise hx)]
      exact beq_self_eq_true x.path
    omega
  · rw [if_neg hc, List.countP_eq_zero]
    intro k hk hq
    obtain ⟨m, hm, hmm, hp, hpar, h1⟩ := kid_look h hd hk
    simp only [Function.comp, stK_of hm] at hq
    have e1 : m.path = x.path := eq_of_beq hq
    have e2 : m = x := by
      have h5 := look_of h.rise hmm
      rw [e1, look_of h.rise hx] at h5
      injection h5 with h5; exact h5.symm
    subst e2
    exact hc ⟨by omega, hpar⟩
/-- a kid of that path is the file itself -/
theorem kid_same {T : Tr} (h : WF T) {d x : Nd} (hd : d ∈ T.L) (hx : x ∈ T.L) {s : St} (hs : s ∈ kidSts T.L d) (he : s.qp = x.path) : s = statOf x ∧ x.parent = d.path := by
  rw [kidSts_eq, List.mem_map] at hs
  obtain ⟨k, hk, rfl⟩ := hs
  obtain ⟨m, hm, hmm, hp, hpar, h1⟩ := kid_look h hd hk
  rw [stK_of hm] at he ⊢
  have e1 : m.path = x.path := he
  have e2 : m = x := by
    have h5 := look_of h.rise hmm
    rw [e1, look_of h.rise hx] at h5
    injection h5 with h5; exact h5.symm
  subst e2
  exact ⟨rfl, hpar⟩
/-- no two kids have one name -/
theorem kid_names {T : Tr} (h : WF T) (h2 : WT T) {d : Nd} (hd : d ∈ T.L) (nm : ByteArray) : (kidSts T.L d).countP (fun s => s.n.toList == nm.toList) ≤ 1 := by
  rw [kidSts_eq, List.countP_map]
  refine count_le_one _ (kidPs_nodup h hd) fun a ha b hb q1 q2 => ?_
  obtain ⟨m, hm, hmm, hp, hpar, h1⟩ := kid_look h hd ha
  obtain ⟨m2, hm2, hmm2, hp2, hpar2, h12⟩ := kid_look h hd hb
  simp only [Function.comp, stK_of hm, stK_of hm2] at q1 q2
  have e1 : m.name.toList = nm.toList := eq_of_beq q1
  have e2 : m2.name.toList = nm.toList := eq_of_beq q2
  have e3 : m.name = m2.name := ByteArray.ext (Array.toList_inj.1 (by rw [← ByteArray.toList_eq, ← ByteArray.toList_eq, e1, e2]))
  have := h2.nm m hmm m2 hmm2 (by omega) (by omega) (by rw [hpar, hpar2]) e3
  omega
theorem countP_take {α : Type} (q : α → Bool) (l : List α) (m : Nat) (h : m < l.length) : (l.take (m + 1)).countP q = (l.take m).countP q + if q l[m] = true then 1 else 0 := by
  rw [List.take_succ_eq_append_getElem h, List.countP_append]
  congr 1
  rw [List.countP_cons, List.countP_nil]
  simp
theorem countP_take_le {α : Type} (q : α → Bool) (l : List α) (m : Nat) : (l.take m).countP q ≤ l.countP q := List.Sublist.countP_le (List.take_sublist _ _)
/-- how often a file is a kid, among the first files -/
def kidN (T : Tr) (x : Nd) (k : Nat) : Nat := (T.L.take k).countP fun d => d.dir && (decide (x.path ≠ 1) && decide (x.parent = d.path))
theorem kidN_succ (T : Tr) (x : Nd) (k : Nat) (h : k < T.L.length) : kidN T x (k + 1) = kidN T x k + if (T.L[k].dir && (decide (x.path ≠ 1) && decide (x.parent = T.L[k].path))) = true then 1 else 0 := countP_take _ _ _ h
theorem kidN_le {T : Tr} (h : WF T) (x : Nd) (k : Nat) : kidN T x k ≤ 1 := by
  refine Nat.le_trans (countP_take_le _ _ _) (count_le_one _ ?_ ?_)
  · rw [List.nodup_iff_pairwise_ne]
    exact h.rise.imp fun {a b} hab e => by rw [e] at hab; omega
  · intro a ha b hb h1 h2
    simp only [Bool.and_eq_true, decide_eq_true_eq] at h1 h2
    have e : a.path = b.path := h1.2.2.symm.trans h2.2.2
    have h3 := look_of h.rise ha
    rw [e, look_of h.rise hb] at h3
    injection h3 with h3; exact h3.symm
theorem kidN_all {T : Tr} (h : WF T) (h2 : WT T) {x : Nd} (hx : x ∈ T.L) : kidN T x T.L.length = if x.path = 1 then 0 else 1 := by
  by_cases h1 : x.path = 1
  · rw [if_pos h1]
    unfold kidN
    rw [List.countP_eq_zero]
    intro d _ hd
    simp only [Bool.and_eq_true, decide_eq_true_eq] at hd
    exact hd.2.1 h1
  · rw [if_neg h1]
    have hle := kidN_le h x T.L.length
    obtain ⟨d, hd⟩ := h.par x hx
    obtain ⟨hdm, hdp⟩ := look_some hd
    have hdir := h2.isd x hx d hd
    have h0 : 0 < kidN T x T.L.length := by
      unfold kidN
      rw [List.take_length, List.countP_pos_iff]
      refine ⟨d, hdm, ?_⟩
      simp only [Bool.and_eq_true, decide_eq_true_eq]
      exact ⟨hdir, h1, hdp.symm⟩
    omega
/-- the first file is the root -/
theorem first_root {T : Tr} (h : WF T) : ∃ r, T.L[0]? = some r ∧ r.path = 1 ∧ r.parent = 1 := by
  obtain ⟨r, hr, hp⟩ := h.root
  obtain ⟨i, hi, hn, hl⟩ := look_get hr
  have hrp := (look_some hr).2
  have h0 : T.L[0]? = some T.L[0] := List.getElem?_eq_getElem (by omega)
  by_cases h1 : i = 0
  · subst h1; exact ⟨r, hn, hrp, hp⟩
  · have h2 := List.pairwise_iff_getElem.1 h.rise 0 i (by omega) hl (by omega)
    have h3 := (h.lo T.L[0] (List.getElem_mem _)).1
    have h4 : T.L[i] = r := by rw [List.getElem?_eq_getElem hl] at hn; injection hn
    rw [h4, hrp] at h2
    omega
/-- going up one comes to an earlier file -/
theorem up_step {T : Tr} (h : WF T) {j : Nat} {x : Nd} (hx : T.L[j]? = some x) (h1 : x.path ≠ 1) : ∃ (i : Nat) (d : Nd), T.L[i]? = some d ∧ d.path = x.parent ∧ i < j := by
  have hm := List.mem_of_getElem? hx
  obtain ⟨d, hd⟩ := h.par x hm
  obtain ⟨i, _, hn, hl⟩ := look_get hd
  have hdp := (look_some hd).2
  refine ⟨i, d, hn, hdp, ?_⟩
  have hup := h.up x hm h1
  rcases Nat.lt_trichotomy i j with e | e | e
  · exact e
  · subst e; rw [hx] at hn; injection hn with hn; subst hn; omega
  · obtain ⟨hj, rfl⟩ := List.getElem?_eq_some_iff.1 hx
    obtain ⟨hi, rfl⟩ := List.getElem?_eq_some_iff.1 hn
    have := List.pairwise_iff_getElem.1 h.rise j i hj hi e
    omega
end Go.Proofs.YtkcnbbjmkkaolaaGreatDoor
namespace Go.Proofs.YtkcnbbjmkkaolaaGreatDoor
open Go.RowKit

theorem all_get {T : Tr} {k : Nat} {n : Nd} (h : T.L[k]? = some n) : (allT T)[k]? = some (fileOf n) := by unfold allT; rw [List.getElem?_map, h]; rfl
theorem all_len (T : Tr) : (allT T).length = T.L.length := List.length_map ..
/-- the row of all files, read -/
structure AlAt (w : World) (T : Tr) (g o cap : Nat) : Prop where
  cap : T.L.length ≤ cap
  lt : g < w.heap.size
  el : ∀ k n, T.L[k]? = some n → ∀ i u, (flC (fileOf n))[i]? = some u → w.cell? ⟨g, o + k * 15 + i, none⟩ = some u
theorem al_form {w : World} {P : Nat → Prop} {v : Value} {T : Tr} (hwf : WF T) (h : FlAt w P v (allT T)) : ∃ g o cap, v = .slice (some ⟨g, o, none⟩) T.L.length cap ∧ P g ∧ AlAt w T g o cap := by
  obtain ⟨a, cap, rfl, hc, hx⟩ := h.form
  rw [all_len] at hc
  obtain ⟨r, hr, _⟩ := first_root hwf
  obtain ⟨g, o, rfl, hP, hg, _⟩ := hx 0 _ (all_get hr)
  refine ⟨g, o, cap, by rw [all_len], hP, hc, hg, fun k n hk i u hu => ?_⟩
  obtain ⟨g2, o2, e, _, _, hcell⟩ := hx k _ (all_get hk)
  injection e with e
  injection e with e1 e2
  subst e1 e2
  exact hcell i u hu
theorem AlAt.mod {w w' : World} {T : Tr} {g o cap : Nat} (h : AlAt w T g o cap) (hm : Mod (fun _ => False) w w') : AlAt w' T g o cap :=
  ⟨h.cap, Nat.lt_of_lt_of_le h.lt hm.size, fun k n hk i u hu => keepN hm (h.el k n hk i u hu)⟩
set_option maxHeartbeats 4000000 in
set_option maxRecDepth 100000 in
theorem rises_any (T : Tr) (g o cap i : Nat) (w : World) (h : AlAt w T g o cap) (hwf : WF T) (hi : i < T.L.length) :
    Calls Tryz.prog 21 #[.slice (some ⟨g, o, none⟩) T.L.length cap, .int .i64 i] w fun e w' => e = .returned (.bool true) ∧ w = w' := by
  obtain ⟨x0, hx0⟩ : ∃ x, T.L[i]? = some x := ⟨_, List.getElem?_eq_getElem hi⟩
  have e4 : w.cell? ⟨g, o + i * 15 + 4, none⟩ = some (.int .u64 x0.path) := h.el i x0 hx0 4 _ rfl
  have hl := hwf.len
  have hcap := h.cap
  have i1 : (0 : Int) ≤ (i : Int) := by omega
  have i2 : (i : Int) < (T.L.length : Int) := by omega
  have i3 : (T.L.length : Int) ≤ (cap : Int) := by omega
  have H := Lib.hid h
  have HWF := Lib.hid hwf
  have HX0 := Lib.hid hx0
  clear h hwf hx0
  go_enter Tryz.func21, Tryz.ntmps21
  go_wp2
  go_loopw [5, 6, 7] (fun at_ n _ wr => ∃ (j q : Nat) (x : Nd), Hid (T.L[j]? = some x) ∧ at_ = .int .u64 x.path ∧ n = .int .i64 q ∧ j + q ≤ i ∧ w = wr) (fun _ n _ _ => T.L.length + 1 - (intOf n).toNat)
  case atStart => exact ⟨i, 0, x0, HX0, rfl, rfl, Nat.le_refl _, rfl⟩
  case round =>
    obtain ⟨j, q, x, HX, rfl, rfl, hjq, rfl⟩ := hrel
    have t1 : decide ((q : Int) ≤ (T.L.length : Int)) = true := by simp; omega
    have t1' : decide (q ≤ T.L.length) = true := by simp; omega
    by_cases h1 : x.path = 1
    · have t2 : ((x.path : Int) == 1) = true := by simp [h1]
      have t2' : (x.path == 1) = true := by simp [h1]
      clear h1
      go_wp2
      go_ret
      exact ⟨rfl, rfl⟩
    · have t2 : ((x.path : Int) == 1) = false := by simp; omega
      have t2' : (x.path == 1) = false := by simpa using h1
      obtain ⟨i', d, hd, hdp, hij⟩ := up_step HWF.out HX.out h1
      have hjl : j < T.L.length := (List.getElem?_eq_some_iff.1 HX.out).1
      have HD := Lib.hid hd
      have HDP := Lib.hid hdp
      clear h1 hd hdp
      go_wp2
      clear t2 t2' t1 t1'
      go_loopw [5, 7] (fun at_ k w2 => ∃ (kk : Nat), kk ≤ j ∧ k = .int .i64 kk ∧ at_ = .int .u64 x.path ∧ w = w2) (fun _ k _ => j + 1 - (intOf k).toNat)
      case atStart => exact ⟨0, Nat.zero_le _, rfl, rfl, rfl⟩
      case round =>
        obtain ⟨kk, hkk, rfl, rfl, rfl⟩ := hrel
        obtain ⟨n, hn⟩ : ∃ n, T.L[kk]? = some n := ⟨_, List.getElem?_eq_getElem (by omega)⟩
        have t3 : decide ((kk : Int) < (T.L.length : Int)) = true := by simp; omega
        have t3' : decide (kk < T.L.length) = true := by simp; omega
        have k4 : w.cell? ⟨g, o + kk * 15 + 4, none⟩ = some (.int .u64 n.path) := H.out.el kk n hn 4 _ rfl
        have k13 : w.cell? ⟨g, o + kk * 15 + 13, none⟩ = some (.int .u64 n.parent) := H.out.el kk n hn 13 _ rfl
        have k1 : (0 : Int) ≤ (kk : Int) := by omega
        have k2 : (kk : Int) < (T.L.length : Int) := by omega
        by_cases he : kk = j
        · subst he
          have hnx : n = x := by have h2 := HX.out; rw [hn] at h2; injection h2
          subst hnx
          have t4 : ((n.path : Int) == (n.path : Int)) = true := by simp
          rw [← HDP.out] at k13
          clear hn
          go_wp2
          go_roundw
          case rel => exact ⟨i', q + 1, d, HD, rfl, by go_num, by omega, trivial⟩
          case measure => simp [intOf]; omega
        · have hne : n.path ≠ x.path := fun e => he (rise_inj HWF.out.rise hn HX.out e)
          have t4 : ((n.path : Int) == (x.path : Int)) = false := by simp; omega
          have t4' : (n.path == x.path) = false := by simpa using hne
          clear hn hne
          go_wp2
          go_roundw
          case rel => exact ⟨kk + 1, by omega, by go_num, rfl, trivial⟩
          case measure => simp [intOf]; omega
end Go.Proofs.YtkcnbbjmkkaolaaGreatDoor
namespace Go.Proofs.YtkcnbbjmkkaolaaGreatDoor
open Go.RowKit

theorem AlAt.row {w : World} {T : Tr} {g o cap : Nat} (h : AlAt w T g o cap) {k : Nat} {n : Nd} (hk : T.L[k]? = some n) : w.rangeAt g (o + k * 15) (statOf n).cells := fun j u hu =>
  h.el k n hk j u (by
    have hj : j < (statOf n).cells.length := (List.getElem?_eq_some_iff.1 hu).1
    show ((statOf n).cells ++ [.int .u64 n.parent, .string n.data])[j]? = some u
    rw [List.getElem?_append_left hj]
    exact hu)
set_option maxHeartbeats 16000000 in
set_option maxRecDepth 100000 in
theorem kid_any {w : World} {ρ : Nat → Role} {b mb cnt : Nat} {T : Tr} {am : Nat → Nat} {vk : Nat → Value} (hp : PTreeP w ρ b mb cnt T am vk) (hwf : WF T) (hwt : WT T) (g o cap i : Nat) (h : AlAt w T g o cap) (hi : i < T.L.length) :
    Calls Tryz.prog 20 #[.pointer (some ⟨b, 0, none⟩), .slice (some ⟨g, o, none⟩) T.L.length cap, .int .i64 i] w fun e w' => e = .returned (.bool true) ∧ Mod (fun _ => False) w w' := by
  obtain ⟨x, hx⟩ : ∃ x, T.L[i]? = some x := ⟨_, List.getElem?_eq_getElem hi⟩
  have hxm := List.mem_of_getElem? hx
  have hl := hwf.len
  have hcap := h.cap
  have i1 : (0 : Int) ≤ (i : Int) := by omega
  have i2 : (i : Int) < (T.L.length : Int) := by omega
  have i3 : (T.L.length : Int) ≤ (cap : Int) := by omega
  have H := Lib.hid h
  have HP := Lib.hid hp
  have HWF := Lib.hid hwf
  have HWT := Lib.hid hwt
  have HX := Lib.hid hx
  have HXM := Lib.hid hxm
  have HK0 : Hid (kidN T x 0 = 0) := by show _ = _; unfold kidN; rfl
  clear h hp hwf hwt hx hxm
  go_enter Tryz.func20, Tryz.ntmps20
  go_wp2
  go_loopw [7, 8, 9, 10, 11, 12] (fun n k _ _ _ _ wr => ∃ (kk c : Nat), kk ≤ T.L.length ∧ k = .int .i64 kk ∧ n = .int .i64 c ∧ Hid (kidN T x kk = c) ∧ Hid (Mod (fun _ => False) w wr)) (fun _ k _ _ _ _ _ => T.L.length - (intOf k).toNat)
  case atStart => exact ⟨0, 0, Nat.zero_le _, rfl, rfl, HK0, Mod.refl _ _⟩
  case round =>
    obtain ⟨kk, c, hkk, rfl, rfl, HC, HM⟩ := hrel
    have hc1 : c ≤ 1 := by have := kidN_le HWF.out x kk; rw [HC.out] at this; exact this
    by_cases hlk : kk < T.L.length
    · obtain ⟨d, hd⟩ : ∃ d, T.L[kk]? = some d := ⟨_, List.getElem?_eq_getElem hlk⟩
      have hdm := List.mem_of_getElem? hd
      have hde : T.L[kk] = d := by rw [List.getElem?_eq_getElem hlk] at hd; injection hd
      have hsucc := kidN_succ T x kk hlk
      rw [hde, HC.out] at hsucc
      have t1 : decide ((kk : Int) < (T.L.length : Int)) = true := by simp; omega
      have t1' : decide (kk < T.L.length) = true := by simp; omega
      have k1 : (0 : Int) ≤ (kk : Int) := by omega
      have k2 : (kk : Int) < (T.L.length : Int) := by omega
      have Hr := H.out.mod HM.out
      have d2 : wr.cell? ⟨g, o + kk * 15 + 2, none⟩ = some (.int .u8 (if d.dir then 128 else 0)) := by
        have := Hr.el kk d hd 2 _ rfl
        rw [this]
        congr 2
        show ((if d.dir = true then 128 else 0 : Nat) : Int) = _
        cases d.dir <;> rfl
      have d4 : wr.cell? ⟨g, o + kk * 15 + 4, none⟩ = some (.int .u64 d.path) := Hr.el kk d hd 4 _ rfl
      have HD := Lib.hid hd
      have HDM := Lib.hid hdm
      have HSu := Lib.hid hsucc
      cases hdir : d.dir with
      | false =>
        rw [hdir] at d2 HSu
        simp only [Bool.false_eq_true, if_false] at d2
        have HK1 : Hid (kidN T x (kk + 1) = c) := HSu.out
        have d8 : wr.cell? ⟨g, o + kk * 15 + 8, none⟩ = some (.int .u64 d.data.size) := Hr.el kk d hd 8 _ rfl
        have d14 : wr.cell? ⟨g, o + kk * 15 + 14, none⟩ = some (.string d.data) := Hr.el kk d hd 14 _ rfl
        have hdz := (HWF.out.ok d hdm).data
        have hw : IntKind.u64.wrap (d.data.size : Int) = d.data.size := by rw [IntKind.wrap_u64]; omega
        clear hd hdm hde hsucc Hr HSu HC
        go_upto_region 6 with (fail)
        refine wp_region_held_drew (S := fun w' => Hid (Mod (fun _ => False) wr w')) (by kernel_rfl) (Lib.hid (Mod.refl (fun _ => False) wr).drew) (fun hHeld => ?_)
        refine hT 0 rfl (fun _ _ => by go_simp; all_goals with_reducible rfl) ?_
        try simp only [gA, gB, gC, Act.put, sA, sB, sC]
        refine hT 1 rfl (fun _ _ => by go_simp; all_goals with_reducible rfl) ?_
        try simp only [gA, gB, gC, Act.put, sA, sB, sC]
        refine hT 2 rfl (fun _ _ => by go_simp; all_goals with_reducible rfl) ?_
        try simp only [gA, gB, gC, Act.put, sA, sB, sC]
        refine hT 3 rfl (fun _ _ => by go_simp; all_goals with_reducible rfl) ?_
        try simp only [gA, gB, gC, Act.put, sA, sB, sC]
        refine hT 4 rfl (fun _ _ => by go_simp; all_goals with_reducible rfl) ?_
        try simp only [gA, gB, gC, Act.put, sA, sB, sC]
        refine hT 5 rfl (fun wH hSw => by have cH := keepN hSw.out d8; clear hSw; go_simp; all_goals with_reducible rfl) ?_
        try simp only [gA, gB, gC, Act.put, sA, sB, sC]
        refine hT 6 rfl (fun _ _ => by go_simp; all_goals with_reducible rfl) ?_
        try simp only [gA, gB, gC, Act.put, sA, sB, sC]
        refine hT 7 rfl (fun _ _ => by go_simp; all_goals with_reducible rfl) ?_
        try simp only [gA, gB, gC, Act.put, sA, sB, sC]
        refine hT 8 rfl (fun _ _ => by go_simp; all_goals with_reducible rfl) ?_
        try simp only [gA, gB, gC, Act.put, sA, sB, sC]
        refine hT 9 rfl (fun _ _ => by go_simp; all_goals with_reducible rfl) ?_
        try simp only [gA, gB, gC, Act.put, sA, sB, sC]
        refine hT 10 rfl (fun wH hSw => by have cH := keepN hSw.out d14; clear hSw; go_simp; all_goals with_reducible rfl) ?_
        try simp only [gA, gB, gC, Act.put, sA, sB, sC]
        refine hT 11 rfl (fun _ _ => by go_simp; all_goals with_reducible rfl) ?_
        try simp only [gA, gB, gC, Act.put, sA, sB, sC]
        refine hT 12 rfl (fun _ _ => by go_simp; all_goals with_reducible rfl) ?_
        try simp only [gA, gB, gC, Act.put, sA, sB, sC]
        refine hT 13 rfl (fun _ _ => by go_simp; all_goals with_reducible rfl) ?_
        try simp only [gA, gB, gC, Act.put, sA, sB, sC]
        refine wpAnyH_done (by kernel_rfl) ?_ _
        go_wp2
        go_roundw
        case rel => exact ⟨kk + 1, c, hlk, by go_num, rfl, HK1, HM.out.trans hHeld.out⟩
        case measure => simp [intOf]; omega
      | true =>
        rw [hdir] at d2
        simp only [if_true] at d2
        have hLi : Calls Tryz.prog 31 #[.pointer (some ⟨b, 0, none⟩), .int .u64 d.path] wr fun e w' => ∃ v, e = .returned (.tuple #[v, .int .i64 0]) ∧ RecsAt St.cells 13 w' (wr.heap.size ≤ ·) v (kidSts T.L d) ∧ Mod (fun _ => False) wr w' := by
          have h1 := plist_any (HP.out.mod0 HM.out) HWF.out d.path (by have := (HWF.out.ok d hdm).path; omega)
          have h2 : listT T d.path = (kidSts T.L d, 0) := by
            unfold listT
            rw [look_of HWF.out.rise hdm]
            show (if d.dir = false then _ else _) = _
            rw [if_neg (by rw [hdir]; simp)]
          rw [h2] at h1
          exact h1
        have hde0 : d.data.toList.isEmpty = true := by rw [empty_beq]; simpa using HWT.out.dat d hdm hdir
        have HKC := Lib.hid (kid_count HWF.out hdm HXM.out)
        have HKN := Lib.hid (kid_names HWF.out HWT.out hdm x.name)
        have HKS : Hid (∀ s ∈ kidSts T.L d, s.qp = x.path → s = statOf x ∧ x.parent = d.path) := fun s hs he => kid_same HWF.out hdm HXM.out hs he
        have HK1 : Hid (kidN T x (kk + 1) = c + (kidSts T.L d).countP (fun s => s.qp == x.path)) := by
          show _ = _
          rw [HSu.out, HKC.out, hdir]
          congr 1
          simp
        have hk1 : c + (kidSts T.L d).countP (fun s => s.qp == x.path) ≤ 1 := by rw [← HK1.out]; exact kidN_le HWF.out x (kk + 1)
        have hk2 : (kidSts T.L d).countP (fun s => s.n.toList == x.name.toList) ≤ 1 := HKN.out
        have hkl := kidSts_len (L := T.L) (HWF.out.ok d hdm).kl
        clear hd hdm hde hsucc Hr HSu HKC HKN HC
        generalize kidSts T.L d = ks at *
        go_wp2_with fail
        refine hLi.mono ?_
        rintro e w1 ⟨v1, rfl, hv1, m1⟩
        obtain ⟨a1, cap1, rfl, hcap1, hx1⟩ := hv1.form
        have M1 : Hid (Mod (fun _ => False) w w1) := HM.out.trans m1
        have H1 := Lib.hid (H.out.mod M1.out)
        have d14 : w1.cell? ⟨g, o + kk * 15 + 14, none⟩ = some (.string d.data) := H1.out.el kk d HD.out 14 _ rfl
        have HX1 := Lib.hid hx1
        have HK2 := Lib.hid hk1
        have HK3 := Lib.hid hk2
        clear hLi m1 d2 d4 hv1 hx1 hk1 hk2
        go_wp2
        clear d14 hde0 t1 t1'
        generalize wr = W0 at *
        go_loopw [7, 11, 12] (fun n nm m w2 => ∃ (mm cN cM : Nat), mm ≤ ks.length ∧ m = .int .i64 mm ∧ n = .int .i64 cN ∧ nm = .int .i64 cM ∧ cN ≤ 1 ∧ cM ≤ 1 ∧ Hid (c + (ks.take mm).countP (fun s => s.qp == x.path) = cN) ∧ Hid ((ks.take mm).countP (fun s => s.n.toList == x.name.toList) = cM) ∧ Hid (Mod (fun _ => False) w1 w2)) (fun _ _ m _ => ks.length - (intOf m).toNat)
        case atStart => exact ⟨0, c, 0, Nat.zero_le _, rfl, rfl, rfl, hc1, Nat.zero_le _, rfl, rfl, Mod.refl _ _⟩
        case round =>
          obtain ⟨mm, cN, cM, hmm, rfl, rfl, rfl, hcN, hcM, HN, HMm, HW2⟩ := hrel
          by_cases hlt : mm < ks.length
          · obtain ⟨g1, o1, rfl, _, hg1, hcell⟩ := HX1.out mm ks[mm] (List.getElem?_eq_getElem hlt)
            have hmem : ks[mm] ∈ ks := List.getElem_mem hlt
            have hsN := countP_take (fun s : St => s.qp == x.path) ks mm hlt
            have hsM := countP_take (fun s : St => s.n.toList == x.name.toList) ks mm hlt
            have hle1 := countP_take_le (fun s : St => s.qp == x.path) ks (mm + 1)
            have hle2 := countP_take_le (fun s : St => s.n.toList == x.name.toList) ks (mm + 1)
            have hk2 := HK2.out
            have hk3 := HK3.out
            have HSm : Hid (ks[mm].qp = x.path → ks[mm] = statOf x ∧ x.parent = d.path) := HKS.out ks[mm] hmem
            generalize ks[mm] = s at *
            obtain ⟨bq, hbq⟩ : ∃ y, (s.qp == x.path) = y := ⟨_, rfl⟩
            obtain ⟨bn, hbn⟩ : ∃ y, (s.n.toList == x.name.toList) = y := ⟨_, rfl⟩
            have tq : ((s.qp : Int) == (x.path : Int)) = bq := by rw [← hbq]; exact ibeq _ _
            rw [hbq] at hsN
            rw [hbn] at hsM
            rw [HMm.out] at hsM
            have HCM : Hid ((ks.take (mm + 1)).countP (fun s => s.n.toList == x.name.toList) = cM + if bn = true then 1 else 0) := hsM
            have HSN : Hid (c + (ks.take (mm + 1)).countP (fun s => s.qp == x.path) = cN + if bq = true then 1 else 0) := by
              show _ = _
              rw [hsN, ← HN.out, Nat.add_assoc]
            have hcM2 : cM + (if bn = true then 1 else 0) ≤ 1 := by rw [← hsM]; omega
            have hb1' : cN + (if bq = true then 1 else 0) ≤ 1 := by rw [← HSN.out]; omega
            have t1 : decide ((mm : Int) < (ks.length : Int)) = true := by simp; omega
            have t1' : decide (mm < ks.length) = true := by simp; omega
            have j1 : (0 : Int) ≤ (mm : Int) := by omega
            have j2 : (mm : Int) < (ks.length : Int) := by omega
            have j3 : (ks.length : Int) ≤ (cap1 : Int) := by omega
            have H2 := Lib.hid (H1.out.mod HW2.out)
            have hsrow : ∀ U, Mod (fun _ => False) w1 U → U.rangeAt g1 (o1 + mm * 13) s.cells := fun U hU => rec_rng hg1 hcell hU
            have HSR := Lib.hid hsrow
            have s4 : wr.cell? ⟨g1, o1 + mm * 13 + 4, none⟩ = some (.int .u64 s.qp) := hsrow wr HW2.out 4 _ rfl
            have x4 : wr.cell? ⟨g, o + i * 15 + 4, none⟩ = some (.int .u64 x.path) := H2.out.el i x HX.out 4 _ rfl
            clear hsN hsM hle1 hle2 hk2 hk3 hcell hsrow hmem
            have HBN := Lib.hid hbn
            have HBQ := Lib.hid hbq
            clear hbn hbq
            go_upto_region 15 with (fail)
            refine wp_region_held_drew (S := fun w' => Hid (Mod (fun _ => False) wr w')) (by kernel_rfl) (Lib.hid (Mod.refl (fun _ => False) wr).drew) (fun hHeld => ?_)
            refine hT 0 rfl (fun _ _ => by go_simp; all_goals with_reducible rfl) ?_
            try simp only [gA, gB, gC, Act.put, sA, sB, sC]
            refine hT 1 rfl (fun _ _ => by go_simp; all_goals with_reducible rfl) ?_
            try simp only [gA, gB, gC, Act.put, sA, sB, sC]
            refine hT 2 rfl (fun _ _ => by go_simp; all_goals with_reducible rfl) ?_
            try simp only [gA, gB, gC, Act.put, sA, sB, sC]
            refine hT 3 rfl (fun _ _ => by go_simp; all_goals with_reducible rfl) ?_
            try simp only [gA, gB, gC, Act.put, sA, sB, sC]
            refine hT 4 rfl (fun _ _ => by go_simp; all_goals with_reducible rfl) ?_
            try simp only [gA, gB, gC, Act.put, sA, sB, sC]
            refine hT 5 rfl (fun wH hSw => by have cH := keepN hSw.out s4; clear hSw; go_simp; all_goals with_reducible rfl) ?_
            try simp only [gA, gB, gC, Act.put, sA, sB, sC]
            refine hT 6 rfl (fun _ _ => by go_simp; all_goals with_reducible rfl) ?_
            try simp only [gA, gB, gC, Act.put, sA, sB, sC]
            refine hT 7 rfl (fun _ _ => by go_simp; all_goals with_reducible rfl) ?_
            try simp only [gA, gB, gC, Act.put, sA, sB, sC]
            refine hT 8 rfl (fun _ _ => by go_simp; all_goals with_reducible rfl) ?_
            try simp only [gA, gB, gC, Act.put, sA, sB, sC]
            refine hT 9 rfl (fun _ _ => by go_simp; all_goals with_reducible rfl) ?_
            try simp only [gA, gB, gC, Act.put, sA, sB, sC]
            refine hT 10 rfl (fun _ _ => by go_simp; all_goals with_reducible rfl) ?_
            try simp only [gA, gB, gC, Act.put, sA, sB, sC]
            refine hT 11 rfl (fun _ _ => by go_simp; all_goals with_reducible rfl) ?_
            try simp only [gA, gB, gC, Act.put, sA, sB, sC]
            refine hT 12 rfl (fun wH hSw => by have cH := keepN hSw.out x4; clear hSw; go_simp; all_goals with_reducible rfl) ?_
            try simp only [gA, gB, gC, Act.put, sA, sB, sC]
            refine hT 13 rfl (fun _ _ => by go_simp; all_goals with_reducible rfl) ?_
            try simp only [gA, gB, gC, Act.put, sA, sB, sC]
            refine wpAnyH_done (by kernel_rfl) ?_ _
            generalize wr.drew = W3 at hHeld ⊢
            have HW3 := Lib.hid (HW2.out.trans hHeld.out)
            have H3 := Lib.hid (H1.out.mod HW3.out)
            clear hHeld s4 x4 H2
            cases bq with
            | true =>
              obtain ⟨hsx, hpx⟩ := HSm.out (eq_of_beq HBQ.out)
              subst hsx
              have hb1 : cN + 1 ≤ 1 := hb1'
              have HCN : Hid (c + (ks.take (mm + 1)).countP (fun s => s.qp == x.path) = cN + 1) := HSN.out
              have x13 : W3.cell? ⟨g, o + i * 15 + 13, none⟩ = some (.int .u64 d.path) := by rw [← hpx]; exact H3.out.el i x HX.out 13 _ rfl
              have d4 : W3.cell? ⟨g, o + kk * 15 + 4, none⟩ = some (.int .u64 d.path) := H3.out.el kk d HD.out 4 _ rfl
              have hrs : ∀ U, Mod (fun _ => False) W3 U → U.rangeAt g1 (o1 + mm * 13) (statOf x).cells := fun U hU => HSR.out U (HW3.out.trans hU)
              have hrx : ∀ U, Mod (fun _ => False) W3 U → U.rangeAt g (o + i * 15) (statOf x).cells := fun U hU => (H3.out.mod hU).row HX.out
              have hne : ∀ U, (binOp .neq 37 (.agg (statOf x).cells.toArray) (.agg (statOf x).cells.toArray)).run Tryz.prog U = .ok (.bool false) U := fun U => by
                have := neq_any (statOf x) (statOf x) U
                rw [(eqS_iff _ _).2 rfl] at this
                exact this
              have hln := st_len (statOf x)
              clear hpx hb1' HSN HSm
              go_upto_region 17 with (fail)
              refine wp_region_held_drew (S := fun w' => Hid (Mod (fun _ => False) W3 w')) (by kernel_rfl) (Lib.hid (Mod.refl (fun _ => False) W3).drew) (fun hHeld => ?_)
              refine hT 0 rfl (fun _ _ => by go_simp; all_goals with_reducible rfl) ?_
              try simp only [gA, gB, gC, Act.put, sA, sB, sC]
              refine hT 1 rfl (fun _ _ => by go_simp; all_goals with_reducible rfl) ?_
              try simp only [gA, gB, gC, Act.put, sA, sB, sC]
              refine hT 2 rfl (fun _ _ => by go_simp; all_goals with_reducible rfl) ?_
              try simp only [gA, gB, gC, Act.put, sA, sB, sC]
              refine hT 3 rfl (fun _ _ => by go_simp; all_goals with_reducible rfl) ?_
              try simp only [gA, gB, gC, Act.put, sA, sB, sC]
              refine hT 4 rfl (fun wH hSw => by have cH := keepN hSw.out x13; clear hSw; go_simp; all_goals with_reducible rfl) ?_
              try simp only [gA, gB, gC, Act.put, sA, sB, sC]
              refine hT 5 rfl (fun _ _ => by go_simp; all_goals with_reducible rfl) ?_
              try simp only [gA, gB, gC, Act.put, sA, sB, sC]
              refine hT 6 rfl (fun _ _ => by go_simp; all_goals with_reducible rfl) ?_
              try simp only [gA, gB, gC, Act.put, sA, sB, sC]
              refine hT 7 rfl (fun _ _ => by go_simp; all_goals with_reducible rfl) ?_
              try simp only [gA, gB, gC, Act.put, sA, sB, sC]
              refine hT 8 rfl (fun _ _ => by go_simp; all_goals with_reducible rfl) ?_
              try simp only [gA, gB, gC, Act.put, sA, sB, sC]
              refine hT 9 rfl (fun _ _ => by go_simp; all_goals with_reducible rfl) ?_
              try simp only [gA, gB, gC, Act.put, sA, sB, sC]
              refine hT 10 rfl (fun _ _ => by go_simp; all_goals with_reducible rfl) ?_
              try simp only [gA, gB, gC, Act.put, sA, sB, sC]
              refine hT 11 rfl (fun wH hSw => by have cH := keepN hSw.out d4; clear hSw; go_simp; all_goals with_reducible rfl) ?_
              try simp only [gA, gB, gC, Act.put, sA, sB, sC]
              refine hT 12 rfl (fun _ _ => by go_simp; all_goals with_reducible rfl) ?_
              try simp only [gA, gB, gC, Act.put, sA, sB, sC]
              refine hT 13 rfl (fun _ _ => by go_simp; all_goals with_reducible rfl) ?_
              try simp only [gA, gB, gC, Act.put, sA, sB, sC]
              refine hT 14 rfl (fun _ _ => by go_simp; all_goals with_reducible rfl) ?_
              try simp only [gA, gB, gC, Act.put, sA, sB, sC]
              refine hT 15 rfl (fun _ _ => by go_simp; all_goals with_reducible rfl) ?_
              try simp only [gA, gB, gC, Act.put, sA, sB, sC]
              refine hT 16 rfl (fun _ _ => by go_simp; all_goals with_reducible rfl) ?_
              try simp only [gA, gB, gC, Act.put, sA, sB, sC]
              refine hTy 17 rfl (by kernel_rfl) (fun _ _ _ h => h) (by assumption) (yieldsIf_load_mid (by rfl) 37 (.tmp 101) rfl g1 (o1 + mm * 13) rfl (statOf x).cells _ (fun wH hSw => hrs wH hSw.out) Tryz.underlying37 rfl (by kernel_rfl)) ?_
              try simp only [gA, gB, gC, Act.put, sA, sB, sC]
              refine hT 18 rfl (fun _ _ => by go_simp; all_goals with_reducible rfl) ?_
              try simp only [gA, gB, gC, Act.put, sA, sB, sC]
              refine hT 19 rfl (fun _ _ => by go_simp; all_goals with_reducible rfl) ?_
              try simp only [gA, gB, gC, Act.put, sA, sB, sC]
              refine hT 20 rfl (fun _ _ => by go_simp; all_goals with_reducible rfl) ?_
              try simp only [gA, gB, gC, Act.put, sA, sB, sC]
              refine hT 21 rfl (fun _ _ => by go_simp; all_goals with_reducible rfl) ?_
              try simp only [gA, gB, gC, Act.put, sA, sB, sC]
              refine hTy 22 rfl (by kernel_rfl) (fun _ _ _ h => h) (by assumption) (yieldsIf_load_mid (by rfl) 37 (.tmp 106) rfl g (o + i * 15) rfl (statOf x).cells _ (fun wH hSw => hrx wH hSw.out) Tryz.underlying37 rfl (by kernel_rfl)) ?_
              try simp only [gA, gB, gC, Act.put, sA, sB, sC]
              refine hT 23 rfl (fun _ _ => by go_simp; all_goals with_reducible rfl) ?_
              try simp only [gA, gB, gC, Act.put, sA, sB, sC]
              refine hT 24 rfl (fun _ _ => by go_simp; all_goals with_reducible rfl) ?_
              try simp only [gA, gB, gC, Act.put, sA, sB, sC]
              refine wpAnyH_done (by kernel_rfl) ?_ _
              generalize W3.drew = W4 at hHeld ⊢
              have HW4 := Lib.hid (HW3.out.trans hHeld.out)
              have H4 := Lib.hid (H1.out.mod HW4.out)
              have s9 : W4.cell? ⟨g1, o1 + mm * 13 + 9, none⟩ = some (.string x.name) := HSR.out W4 HW4.out 9 _ rfl
              have x9 : W4.cell? ⟨g, o + i * 15 + 9, none⟩ = some (.string x.name) := H4.out.el i x HX.out 9 _ rfl
              obtain rfl : bn = true := by rw [← HBN.out]; exact beq_self_eq_true _
              clear hHeld x13 d4 hrs hrx hne hln H3
              go_upto_region 19 with (fail)
              refine wp_region_held_drew (S := fun w' => Hid (Mod (fun _ => False) W4 w')) (by kernel_rfl) (Lib.hid (Mod.refl (fun _ => False) W4).drew) (fun hHeld => ?_)
              refine hT 0 rfl (fun _ _ => by go_simp; all_goals with_reducible rfl) ?_
              try simp only [gA, gB, gC, Act.put, sA, sB, sC]
              refine hT 1 rfl (fun _ _ => by go_simp; all_goals with_reducible rfl) ?_
              try simp only [gA, gB, gC, Act.put, sA, sB, sC]
              refine hT 2 rfl (fun _ _ => by go_simp; all_goals with_reducible rfl) ?_
              try simp only [gA, gB, gC, Act.put, sA, sB, sC]
              refine hT 3 rfl (fun _ _ => by go_simp; all_goals with_reducible rfl) ?_
              try simp only [gA, gB, gC, Act.put, sA, sB, sC]
              refine hT 4 rfl (fun wH hSw => by have cH := keepN hSw.out s9; clear hSw; go_simp; all_goals with_reducible rfl) ?_
              try simp only [gA, gB, gC, Act.put, sA, sB, sC]
              refine hT 5 rfl (fun _ _ => by go_simp; all_goals with_reducible rfl) ?_
              try simp only [gA, gB, gC, Act.put, sA, sB, sC]
              refine hT 6 rfl (fun _ _ => by go_simp; all_goals with_reducible rfl) ?_
              try simp only [gA, gB, gC, Act.put, sA, sB, sC]
              refine hT 7 rfl (fun _ _ => by go_simp; all_goals with_reducible rfl) ?_
              try simp only [gA, gB, gC, Act.put, sA, sB, sC]
              refine hT 8 rfl (fun _ _ => by go_simp; all_goals with_reducible rfl) ?_
              try simp only [gA, gB, gC, Act.put, sA, sB, sC]
              refine hT 9 rfl (fun _ _ => by go_simp; all_goals with_reducible rfl) ?_
              try simp only [gA, gB, gC, Act.put, sA, sB, sC]
              refine hT 10 rfl (fun wH hSw => by have cH := keepN hSw.out x9; clear hSw; go_simp; all_goals with_reducible rfl) ?_
              try simp only [gA, gB, gC, Act.put, sA, sB, sC]
              refine hT 11 rfl (fun _ _ => by go_simp; all_goals with_reducible rfl) ?_
              try simp only [gA, gB, gC, Act.put, sA, sB, sC]
              refine wpAnyH_done (by kernel_rfl) ?_ _
              have MF := Lib.hid (HW4.out.trans hHeld.out)
              go_wp2
              go_roundw
              case rel => exact ⟨mm + 1, cN + 1, cM + 1, hlt, by go_num, by go_num, by go_num, hb1, hcM2, HCN, HCM.out, MF⟩
              case measure => simp [intOf]; omega
            | false =>
              have hb1 : cN ≤ 1 := hcN
              have HCN : Hid (c + (ks.take (mm + 1)).countP (fun s => s.qp == x.path) = cN) := HSN.out
              have s9 : W3.cell? ⟨g1, o1 + mm * 13 + 9, none⟩ = some (.string s.n) := HSR.out W3 HW3.out 9 _ rfl
              have x9 : W3.cell? ⟨g, o + i * 15 + 9, none⟩ = some (.string x.name) := H3.out.el i x HX.out 9 _ rfl
              have tn : (s.n.toList == x.name.toList) = bn := HBN.out
              clear hb1' HSN HSm H3
              go_upto_region 19 with (fail)
              refine wp_region_held_drew (S := fun w' => Hid (Mod (fun _ => False) W3 w')) (by kernel_rfl) (Lib.hid (Mod.refl (fun _ => False) W3).drew) (fun hHeld => ?_)
              refine hT 0 rfl (fun _ _ => by go_simp; all_goals with_reducible rfl) ?_
              try simp only [gA, gB, gC, Act.put, sA, sB, sC]
              refine hT 1 rfl (fun _ _ => by go_simp; all_goals with_reducible rfl) ?_
              try simp only [gA, gB, gC, Act.put, sA, sB, sC]
              refine hT 2 rfl (fun _ _ => by go_simp; all_goals with_reducible rfl) ?_
              try simp only [gA, gB, gC, Act.put, sA, sB, sC]
              refine hT 3 rfl (fun _ _ => by go_simp; all_goals with_reducible rfl) ?_
              try simp only [gA, gB, gC, Act.put, sA, sB, sC]
              refine hT 4 rfl (fun wH hSw => by have cH := keepN hSw.out s9; clear hSw; go_simp; all_goals with_reducible rfl) ?_
              try simp only [gA, gB, gC, Act.put, sA, sB, sC]
              refine hT 5 rfl (fun _ _ => by go_simp; all_goals with_reducible rfl) ?_
              try simp only [gA, gB, gC, Act.put, sA, sB, sC]
              refine hT 6 rfl (fun _ _ => by go_simp; all_goals with_reducible rfl) ?_
              try simp only [gA, gB, gC, Act.put, sA, sB, sC]
              refine hT 7 rfl (fun _ _ => by go_simp; all_goals with_reducible rfl) ?_
              try simp only [gA, gB, gC, Act.put, sA, sB, sC]
              refine hT 8 rfl (fun _ _ => by go_simp; all_goals with_reducible rfl) ?_
              try simp only [gA, gB, gC, Act.put, sA, sB, sC]
              refine hT 9 rfl (fun _ _ => by go_simp; all_goals with_reducible rfl) ?_
              try simp only [gA, gB, gC, Act.put, sA, sB, sC]
              refine hT 10 rfl (fun wH hSw => by have cH := keepN hSw.out x9; clear hSw; go_simp; all_goals with_reducible rfl) ?_
              try simp only [gA, gB, gC, Act.put, sA, sB, sC]
              refine hT 11 rfl (fun _ _ => by go_simp; all_goals with_reducible rfl) ?_
              try simp only [gA, gB, gC, Act.put, sA, sB, sC]
              refine wpAnyH_done (by kernel_rfl) ?_ _
              have MF := Lib.hid (HW3.out.trans hHeld.out)
              cases bn with
              | true =>
                go_wp2
                go_roundw
                case rel => exact ⟨mm + 1, cN, cM + 1, hlt, by go_num, rfl, by go_num, hb1, hcM2, HCN, HCM.out, MF⟩
                case measure => simp [intOf]; omega
              | false =>
                go_wp2
                go_roundw
                case rel => exact ⟨mm + 1, cN, cM, hlt, by go_num, rfl, rfl, hb1, hcM, HCN, HCM.out, MF⟩
                case measure => simp [intOf]; omega
          · obtain rfl : mm = ks.length := by omega
            have t1 : decide ((ks.length : Int) < (ks.length : Int)) = false := by simp
            have t1' : decide (ks.length < ks.length) = false := by simp
            have t2 : decide (1 < (cM : Int)) = false := by simp; omega
            have t2' : decide (1 < cM) = false := by simp; omega
            rw [List.take_length] at HN HMm
            have HKE : Hid (kidN T x (kk + 1) = cN) := HK1.out.trans HN.out
            have HMe : Hid (Mod (fun _ => False) w wr) := M1.out.trans HW2.out
            clear HN HMm HK1
            go_wp2
            go_roundw
            case rel => exact ⟨kk + 1, cN, hlk, by go_num, rfl, HKE, HMe⟩
            case measure => simp [intOf]; omega
    · obtain rfl : kk = T.L.length := by omega
      have t1 : decide ((T.L.length : Int) < (T.L.length : Int)) = false := by simp
      have t1' : decide (T.L.length < T.L.length) = false := by simp
      have hall := kidN_all HWF.out HWT.out HXM.out
      rw [HC.out] at hall
      have x4 : wr.cell? ⟨g, o + i * 15 + 4, none⟩ = some (.int .u64 x.path) := (H.out.mod HM.out).el i x HX.out 4 _ rfl
      by_cases hp1 : x.path = 1
      · rw [if_pos hp1] at hall
        subst hall
        rw [hp1] at x4
        clear hp1 HC hc1
        go_wp2
        go_ret
        exact ⟨rfl, HM.out⟩
      · rw [if_neg hp1] at hall
        subst hall
        have t2 : ((x.path : Int) != 1) = true := by simp; omega
        have t2' : (x.path != 1) = true := by simpa using hp1
        clear hp1 HC hc1
        go_wp2
        go_ret
        exact ⟨rfl, HM.out⟩
end Go.Proofs.YtkcnbbjmkkaolaaGreatDoor
namespace Go.Proofs.YtkcnbbjmkkaolaaGreatDoor
open Go.RowKit

def tT0 : Tr := newT annB 0
theorem t_new {w : World} (hT : Tabs w) : Calls Tryz.prog 10 #[.string ⟨#[97, 110, 110]⟩, .int .u32 0] w fun e w' => ∃ b ρ mb am vk, e = .returned (.tuple #[.pointer (some ⟨b, 0, none⟩), .int .i64 0]) ∧ PTreeP w' ρ b mb 1 tT0 am vk ∧ Mod (fun _ => False) w w' ∧ ∀ k, ρ k ≠ .none → w.heap.size ≤ k :=
  (pnew_any annB 0 w (by decide) hT).mono fun e w' x => x.2 wk_ann
theorem t_rnew (w : World) : Calls Tryz.prog 15 #[.string ⟨#[97, 110, 110]⟩, .int .u32 0] w fun e w' => ∃ b F g cap vks, e = .returned (.pointer (some ⟨b, 0, none⟩)) ∧ RTreeP w' F b tT0 g cap vks ∧ Mod (fun _ => False) w w' ∧ ∀ k, F k → w.heap.size ≤ k := rNew_any annB 0 w
theorem tT0_wf : WF tT0 := new_wf (by decide) (by decide)
theorem tT0_wt : WT tT0 := new_wt annB 0
theorem tT0_last : tT0.last = 1 := rfl
set_option maxHeartbeats 16000000 in
set_option maxRecDepth 100000 in
theorem tree_walk (v : Value) (l : List SpM) (W : World) (hv : RecsAt SpM.cells 23 W (fun _ => True) v l) (hok : ∀ s ∈ l, s.Ok) (hrc : ∀ s ∈ l, s.Rc) (hlen : l.length ≤ 140737488355328) (hTb : Tabs W) :
    Calls Tryz.prog 4 #[v] W fun e w' => e = .returned (.bool true) ∧ Mod (fun _ => False) W w' := by
  have hH := heavy_any v l W hv hrc hlen
  obtain ⟨va, vc, rfl, hvc, hx⟩ := hv.form
  have HX := Lib.hid hx
  have HT := Lib.hid hTb
  have HOk := Lib.hid hok
  clear hv hrc hx hTb hok
  go_enter Tryz.func4, Tryz.ntmps4
  go_wp2_with fail
  refine hH.mono ?_
  rintro e w1 ⟨bh, rfl, hbh, m1⟩
  have M1 : Hid (Mod (fun _ => False) W w1) := m1
  have HB := Lib.hid hbh
  clear hH m1 hbh
  cases bh with
  | true => go_wp2_with fail
            refine (works_any w1 (HT.out.mod (M1).out)).mono ?_
            rintro e w9 ⟨rfl, m9⟩
            have M9 : Hid (Mod (fun _ => False) W w9) := (M1).out.trans m9
            clear m9
            go_wp2
            go_ret
            exact ⟨rfl, M9.out⟩
  | false =>
  obtain ⟨hl120, hlt⟩ := HB.out rfl
  have HLt := Lib.hid hlt
  clear HB hlt
  have hN := t_new (HT.out.mod M1.out)
  go_wp2_with fail
  refine hN.mono ?_
  rintro e w2 ⟨b, ρ, mb, am, vk, rfl, hp2, m2, hr2⟩
  have M2 : Hid (Mod (fun _ => False) W w2) := M1.out.trans m2
  have HP2 := Lib.hid hp2
  have HR2 : Hid (∀ k, ρ k ≠ .none → W.heap.size ≤ k) := fun k hk => Nat.le_trans M1.out.size (hr2 k hk)
  have hR := t_rnew w2
  clear hN m2 hp2 hr2
  go_wp2_with fail
  refine hR.mono ?_
  rintro e w7 ⟨b', F, g, cap, vks, rfl, hr7, m7, hf7⟩
  have hTw : TwoT w7 ρ F b b' 1 tT0 tT0 := TwoT.init HP2.out (Mod.refl _ _) hr7 m7 hf7 tT0_wf tT0_wf
  have hBs : Bse W w7 ρ F := ⟨HT.out, M2.out.trans m7, fun k hk => by
    rcases hk with x | x
    · exact HR2.out k x
    · exact Nat.le_trans M2.out.size (hf7 k x)⟩
  have HS0 : Hid (Sc W w7 ρ F w7 b b' 1 tT0 tT0) := ⟨ρ, F, hTw, hBs, TwM.refl _ _ _⟩
  have HLa := Lib.hid tT0_last
  have HW0 := Lib.hid tT0_wf
  have HW1 := Lib.hid tT0_wt
  clear hR m7 hr7 hf7 hTw hBs M1 M2 HP2 HR2
  generalize tT0 = T0 at *
  go_wp2
  go_loopw [6] (fun i wr => ∃ (k : Nat), k ≤ l.length ∧ i = .int .i64 k ∧ Hid (Sc W w7 ρ F wr b b' (k + 1) (runT T0 (l.take k)) (runT T0 (l.take k)))) (fun i _ => l.length - (intOf i).toNat)
  case atStart => exact ⟨0, Nat.zero_le _, rfl, HS0⟩
  case round =>
    obtain ⟨k, hk, rfl, HS⟩ := hrel
    by_cases hlt : k < l.length
    · obtain ⟨g1, o1, rfl, _, hg1, hc1⟩ := HX.out k l[k] (List.getElem?_eq_getElem hlt)
      have hsk := HOk.out l[k] (List.getElem_mem hlt)
      have hsl := HLt.out l[k] (List.getElem_mem hlt)
      have HRn := Lib.hid (runT_take T0 l k hlt)
      have hls : (runT T0 (l.take k)).last + 1 < 18446744073709551616 := by
        have h1 := runT_last (l.take k) T0
        rw [List.length_take, HLa.out] at h1
        omega
      generalize l[k] = s at *
      obtain ⟨T, hTT⟩ : ∃ T, runT T0 (l.take k) = T := ⟨_, rfl⟩
      rw [hTT] at HRn HS hls
      have hSt := sc_step HS.out s hsk hsl (by omega) hls hls
      have hr1 : wr.rangeAt g1 (o1 + k * 23) s.cells := rec_rng hg1 hc1 HS.out.m
      have hsl := sp_len s
      have t2 : decide ((k : Int) < (l.length : Int)) = true := by simp; omega
      have t2' : decide (k < l.length) = true := by simp; omega
      have i1 : (0 : Int) ≤ (k : Int) := by omega
      have i2 : (k : Int) < (l.length : Int) := by omega
      have i3 : (l.length : Int) ≤ (vc : Int) := by omega
      clear hc1 hsk hTT hls HS
      go_wp2_with (refine wpList_load_mid rfl 44 (.tmp 33) rfl g1 (o1 + k * 23) rfl s.cells _ hr1 Tryz.underlying44 rfl (by kernel_rfl) ?_)
      refine hSt.mono ?_
      rintro e wn ⟨vv, rfl, hvv, hsc⟩
      have HS2 : Hid (Sc W w7 ρ F wn b b' (k + 1 + 1) (runT T0 (l.take (k + 1))) (runT T0 (l.take (k + 1)))) := by
        show Sc _ _ _ _ _ _ _ _ _ _
        rw [HRn.out]; exact hsc
      clear hSt hr1 hvv hsc HRn
      go_wp2
      go_roundw
      case rel => exact ⟨k + 1, hlt, by go_num, HS2⟩
      case measure => simp [intOf]; omega
    · obtain rfl : k = l.length := by omega
      have t2 : decide ((l.length : Int) < (l.length : Int)) = false := by simp
      have t2' : decide (l.length < l.length) = false := by simp
      rw [List.take_length] at HS
      have HWT : Hid (WT (runT T0 l)) := runT_wt l T0 HW0.out HW1.out HOk.out HLt.out (by rw [HLa.out]; omega)
      have HWF := Lib.hid HS.out.wfT
      generalize runT T0 l = T at *
      have hA := sc_all HS.out (by omega)
      go_wp2_with fail
      refine hA.mono ?_
      rintro e w8 ⟨v1, rfl, hv1, m8⟩
      have HS8 := Lib.hid (HS.out.do0 m8)
      obtain ⟨g, o, cap, rfl, _, ha8⟩ := al_form HWF.out hv1
      have HA8 := Lib.hid ha8
      have hTl := HWF.out.len
      have hcap := ha8.cap
      have i3 : (T.L.length : Int) ≤ (cap : Int) := by omega
      obtain ⟨rt, hrt, hrp, hrq⟩ := first_root HWF.out
      have h0l : 0 < T.L.length := (List.getElem?_eq_some_iff.1 hrt).1
      have HRT : Hid (T.L[0]? = some rt ∧ rt.path = 1 ∧ rt.parent = 1) := ⟨hrt, hrp, hrq⟩
      clear hA m8 hv1 HS ha8 hrt hrp hrq t2 t2'
      go_wp2
      go_loopw [8] (fun iv wr => ∃ (i : Nat), i ≤ T.L.length ∧ iv = .int .i64 i ∧ Hid (Mod (fun _ => False) w8 wr)) (fun iv _ => T.L.length - (intOf iv).toNat)
      case atStart => exact ⟨0, Nat.zero_le _, rfl, Mod.refl _ _⟩
      case round =>
        obtain ⟨i, hi, rfl, HMr⟩ := hrel
        by_cases hlt : i < T.L.length
        · have t3 : decide ((i : Int) < (T.L.length : Int)) = true := by simp; omega
          have t3' : decide (i < T.L.length) = true := by simp; omega
          have i1 : (0 : Int) ≤ (i : Int) := by omega
          have i2 : (i : Int) < (T.L.length : Int) := by omega
          have HA := HA8
          obtain ⟨x, hx⟩ : ∃ x, T.L[i]? = some x := ⟨_, List.getElem?_eq_getElem hlt⟩
          have x4 : wr.cell? ⟨g, o + i * 15 + 4, none⟩ = some (.int .u64 x.path) := (HA.out.mod HMr.out).el i x hx 4 _ rfl
          have hKi : Calls Tryz.prog 20 #[.pointer (some ⟨b, 0, none⟩), .slice (some ⟨g, o, none⟩) T.L.length cap, .int .i64 i] wr.drew fun e w' => e = .returned (.bool true) ∧ Mod (fun _ => False) wr.drew w' := by
            obtain ⟨ρ2, G2, h2, _, _⟩ := HS8.out.do0 (HMr.out.drew)
            obtain ⟨mb2, am2, vk2, hp2⟩ := h2.p
            exact kid_any hp2 HWF.out HWT.out g o cap i (HA.out.mod HMr.out.drew) hlt
          by_cases hi0 : i = 0
          · subst hi0
            have hz : ((0 : Nat) : Int) = 0 := rfl
            rw [hz] at hKi
            clear hx x4 hz
            go_upto_region 15 with (fail)
            refine wp_region_held_drew (S := fun w' => Hid (Mod (fun _ => False) wr w')) (by kernel_rfl) (Lib.hid (Mod.refl (fun _ => False) wr).drew) (fun hHeld => ?_)
            refine hT 0 rfl (fun _ _ => by go_simp; all_goals with_reducible rfl) ?_
            try simp only [gA, gB, gC, Act.put, sA, sB, sC]
            refine hT 1 rfl (fun _ _ => by go_simp; all_goals with_reducible rfl) ?_
            try simp only [gA, gB, gC, Act.put, sA, sB, sC]
            refine hT 2 rfl (fun _ _ => by go_simp; all_goals with_reducible rfl) ?_
            try simp only [gA, gB, gC, Act.put, sA, sB, sC]
            refine hSk 3 rfl ?_
            try simp only [gA, gB, gC, Act.put, sA, sB, sC]
            refine hSk 4 rfl ?_
            try simp only [gA, gB, gC, Act.put, sA, sB, sC]
            refine hSk 5 rfl ?_
            try simp only [gA, gB, gC, Act.put, sA, sB, sC]
            refine hSk 6 rfl ?_
            try simp only [gA, gB, gC, Act.put, sA, sB, sC]
            refine hSk 7 rfl ?_
            try simp only [gA, gB, gC, Act.put, sA, sB, sC]
            refine hSk 8 rfl ?_
            try simp only [gA, gB, gC, Act.put, sA, sB, sC]
            refine hSk 9 rfl ?_
            try simp only [gA, gB, gC, Act.put, sA, sB, sC]
            refine hSk 10 rfl ?_
            try simp only [gA, gB, gC, Act.put, sA, sB, sC]
            refine hSk 11 rfl ?_
            try simp only [gA, gB, gC, Act.put, sA, sB, sC]
            refine hSk 12 rfl ?_
            try simp only [gA, gB, gC, Act.put, sA, sB, sC]
            refine hSk 13 rfl ?_
            try simp only [gA, gB, gC, Act.put, sA, sB, sC]
            refine hSk 14 rfl ?_
            try simp only [gA, gB, gC, Act.put, sA, sB, sC]
            refine hSk 15 rfl ?_
            try simp only [gA, gB, gC, Act.put, sA, sB, sC]
            refine hSk 16 rfl ?_
            try simp only [gA, gB, gC, Act.put, sA, sB, sC]
            refine hSk 17 rfl ?_
            try simp only [gA, gB, gC, Act.put, sA, sB, sC]
            refine hSk 18 rfl ?_
            try simp only [gA, gB, gC, Act.put, sA, sB, sC]
            refine hT 19 rfl (fun _ _ => by go_simp; all_goals with_reducible rfl) ?_
            try simp only [gA, gB, gC, Act.put, sA, sB, sC]
            refine hT 20 rfl (fun _ _ => by go_simp; all_goals with_reducible rfl) ?_
            try simp only [gA, gB, gC, Act.put, sA, sB, sC]
            refine hT 21 rfl (fun _ _ => by go_simp; all_goals with_reducible rfl) ?_
            try simp only [gA, gB, gC, Act.put, sA, sB, sC]
            refine hT 22 rfl (fun _ _ => by go_simp; all_goals with_reducible rfl) ?_
            try simp only [gA, gB, gC, Act.put, sA, sB, sC]
            refine hT 23 rfl (fun _ _ => by go_simp; all_goals with_reducible rfl) ?_
            try simp only [gA, gB, gC, Act.put, sA, sB, sC]
            refine hR1 24 rfl fun K hK => ?_
            go_simp
            refine hKi.mono ?_
            rintro e w4 ⟨rfl, m4⟩
            refine hK.out _ _ (Lib.hid (hHeld.out.trans m4)) ?_; clear hK K hHeld; intro hHeld
            try simp only [gA, gB, gC, Act.put, sA, sB, sC]
            refine hT 25 rfl (fun _ _ => by go_simp; all_goals with_reducible rfl) ?_
            try simp only [gA, gB, gC, Act.put, sA, sB, sC]
            refine hT 26 rfl (fun _ _ => by go_simp; all_goals with_reducible rfl) ?_
            try simp only [gA, gB, gC, Act.put, sA, sB, sC]
            refine hT 27 rfl (fun _ _ => by go_simp; all_goals with_reducible rfl) ?_
            try simp only [gA, gB, gC, Act.put, sA, sB, sC]
            refine hT 28 rfl (fun _ _ => by go_simp; all_goals with_reducible rfl) ?_
            try simp only [gA, gB, gC, Act.put, sA, sB, sC]
            refine hT 29 rfl (fun _ _ => by go_simp; all_goals with_reducible rfl) ?_
            try simp only [gA, gB, gC, Act.put, sA, sB, sC]
            have hRi := rises_any T g o cap (0) w4 (HA.out.mod (HMr.out.trans hHeld.out)) HWF.out hlt
            (have hz : ((0 : Nat) : Int) = 0 := rfl; rw [hz] at hRi; clear hz)
            refine hR1 30 rfl fun K hK => ?_
            go_simp
            refine hRi.mono ?_
            rintro e w5 ⟨rfl, rfl⟩
            clear hRi
            have hH2 := hHeld.out
            refine hK.out _ _ (Lib.hid (hH2)) ?_; clear hK K hHeld; intro hHeld
            try simp only [gA, gB, gC, Act.put, sA, sB, sC]
            refine hT 31 rfl (fun _ _ => by go_simp; all_goals with_reducible rfl) ?_
            try simp only [gA, gB, gC, Act.put, sA, sB, sC]
            refine hT 32 rfl (fun _ _ => by go_simp; all_goals with_reducible rfl) ?_
            try simp only [gA, gB, gC, Act.put, sA, sB, sC]
            refine wpAnyH_done (by kernel_rfl) ?_ _
            have MF := Lib.hid (HMr.out.trans hHeld.out)
            go_wp2
            go_roundw
            case rel => exact ⟨0 + 1, hlt, by go_num, MF⟩
            case measure => simp [intOf]; omega
          · obtain ⟨j, rfl⟩ : ∃ j, i = j + 1 := ⟨i - 1, by omega⟩
            obtain ⟨y, hy⟩ : ∃ y, T.L[j]? = some y := ⟨_, List.getElem?_eq_getElem (by omega)⟩
            have y4 : wr.cell? ⟨g, o + j * 15 + 4, none⟩ = some (.int .u64 y.path) := (HA.out.mod HMr.out).el j y hy 4 _ rfl
            have hlt2 : y.path < x.path := by
              obtain ⟨h1, rfl⟩ := List.getElem?_eq_some_iff.1 hy
              obtain ⟨h2, rfl⟩ := List.getElem?_eq_some_iff.1 hx
              exact List.pairwise_iff_getElem.1 HWF.out.rise j (j + 1) h1 h2 (by omega)
            obtain ⟨I, hI⟩ : ∃ I : Nat, j + 1 = I := ⟨_, rfl⟩
            rw [hI] at x4 hKi hlt i1 i2 t3 t3' hx
            have hsub : (I : Int) - 1 = (j : Int) := by omega
            have hwj : IntKind.i64.wrap (j : Int) = j := by rw [IntKind.wrap_i64]; omega
            have hpos : decide ((0 : Int) < (I : Int)) = true := by simp; omega
            have hpos' : decide (0 < I) = true := by simp; omega
            have hge : decide ((x.path : Int) ≤ (y.path : Int)) = false := by simp; omega
            have hge' : decide (x.path ≤ y.path) = false := by simp; omega
            have j1 : (0 : Int) ≤ (j : Int) := by omega
            have j2 : (j : Int) < (T.L.length : Int) := by omega
            have HI := Lib.hid hI
            rw [hI]
            clear hx hy hlt2 hI hi0
            go_upto_region 15 with (fail)
            refine wp_region_held_drew (S := fun w' => Hid (Mod (fun _ => False) wr w')) (by kernel_rfl) (Lib.hid (Mod.refl (fun _ => False) wr).drew) (fun hHeld => ?_)
            refine hT 0 rfl (fun _ _ => by go_simp; all_goals with_reducible rfl) ?_
            try simp only [gA, gB, gC, Act.put, sA, sB, sC]
            refine hT 1 rfl (fun _ _ => by go_simp; all_goals with_reducible rfl) ?_
            try simp only [gA, gB, gC, Act.put, sA, sB, sC]
            refine hT 2 rfl (fun _ _ => by go_simp; all_goals with_reducible rfl) ?_
            try simp only [gA, gB, gC, Act.put, sA, sB, sC]
            refine hT 3 rfl (fun _ _ => by go_simp; all_goals with_reducible rfl) ?_
            try simp only [gA, gB, gC, Act.put, sA, sB, sC]
            refine hT 4 rfl (fun _ _ => by go_simp; all_goals with_reducible rfl) ?_
            try simp only [gA, gB, gC, Act.put, sA, sB, sC]
            refine hT 5 rfl (fun _ _ => by go_simp; all_goals with_reducible rfl) ?_
            try simp only [gA, gB, gC, Act.put, sA, sB, sC]
            refine hT 6 rfl (fun _ _ => by go_simp; all_goals with_reducible rfl) ?_
            try simp only [gA, gB, gC, Act.put, sA, sB, sC]
            refine hT 7 rfl (fun _ _ => by go_simp; all_goals with_reducible rfl) ?_
            try simp only [gA, gB, gC, Act.put, sA, sB, sC]
            refine hT 8 rfl (fun _ _ => by go_simp; all_goals with_reducible rfl) ?_
            try simp only [gA, gB, gC, Act.put, sA, sB, sC]
            refine hT 9 rfl (fun _ _ => by go_simp; all_goals with_reducible rfl) ?_
            try simp only [gA, gB, gC, Act.put, sA, sB, sC]
            refine hT 10 rfl (fun wH hSw => by have cH := keepN hSw.out y4; clear hSw; go_simp; all_goals with_reducible rfl) ?_
            try simp only [gA, gB, gC, Act.put, sA, sB, sC]
            refine hT 11 rfl (fun _ _ => by go_simp; all_goals with_reducible rfl) ?_
            try simp only [gA, gB, gC, Act.put, sA, sB, sC]
            refine hT 12 rfl (fun _ _ => by go_simp; all_goals with_reducible rfl) ?_
            try simp only [gA, gB, gC, Act.put, sA, sB, sC]
            refine hT 13 rfl (fun _ _ => by go_simp; all_goals with_reducible rfl) ?_
            try simp only [gA, gB, gC, Act.put, sA, sB, sC]
            refine hT 14 rfl (fun _ _ => by go_simp; all_goals with_reducible rfl) ?_
            try simp only [gA, gB, gC, Act.put, sA, sB, sC]
            refine hT 15 rfl (fun _ _ => by go_simp; all_goals with_reducible rfl) ?_
            try simp only [gA, gB, gC, Act.put, sA, sB, sC]
            refine hT 16 rfl (fun _ _ => by go_simp; all_goals with_reducible rfl) ?_
            try simp only [gA, gB, gC, Act.put, sA, sB, sC]
            refine hT 17 rfl (fun wH hSw => by have cH := keepN hSw.out x4; clear hSw; go_simp; all_goals with_reducible rfl) ?_
            try simp only [gA, gB, gC, Act.put, sA, sB, sC]
            refine hT 18 rfl (fun _ _ => by go_simp; all_goals with_reducible rfl) ?_
            try simp only [gA, gB, gC, Act.put, sA, sB, sC]
            refine hT 19 rfl (fun _ _ => by go_simp; all_goals with_reducible rfl) ?_
            try simp only [gA, gB, gC, Act.put, sA, sB, sC]
            refine hT 20 rfl (fun _ _ => by go_simp; all_goals with_reducible rfl) ?_
            try simp only [gA, gB, gC, Act.put, sA, sB, sC]
            refine hT 21 rfl (fun _ _ => by go_simp; all_goals with_reducible rfl) ?_
            try simp only [gA, gB, gC, Act.put, sA, sB, sC]
            refine hT 22 rfl (fun _ _ => by go_simp; all_goals with_reducible rfl) ?_
            try simp only [gA, gB, gC, Act.put, sA, sB, sC]
            refine hT 23 rfl (fun _ _ => by go_simp; all_goals with_reducible rfl) ?_
            try simp only [gA, gB, gC, Act.put, sA, sB, sC]
            refine hR1 24 rfl fun K hK => ?_
            go_simp
            refine hKi.mono ?_
            rintro e w4 ⟨rfl, m4⟩
            refine hK.out _ _ (Lib.hid (hHeld.out.trans m4)) ?_; clear hK K hHeld; intro hHeld
            try simp only [gA, gB, gC, Act.put, sA, sB, sC]
            refine hT 25 rfl (fun _ _ => by go_simp; all_goals with_reducible rfl) ?_
            try simp only [gA, gB, gC, Act.put, sA, sB, sC]
            refine hT 26 rfl (fun _ _ => by go_simp; all_goals with_reducible rfl) ?_
            try simp only [gA, gB, gC, Act.put, sA, sB, sC]
            refine hT 27 rfl (fun _ _ => by go_simp; all_goals with_reducible rfl) ?_
            try simp only [gA, gB, gC, Act.put, sA, sB, sC]
            refine hT 28 rfl (fun _ _ => by go_simp; all_goals with_reducible rfl) ?_
            try simp only [gA, gB, gC, Act.put, sA, sB, sC]
            refine hT 29 rfl (fun _ _ => by go_simp; all_goals with_reducible rfl) ?_
            try simp only [gA, gB, gC, Act.put, sA, sB, sC]
            have hRi := rises_any T g o cap (I) w4 (HA.out.mod (HMr.out.trans hHeld.out)) HWF.out hlt
            skip
            refine hR1 30 rfl fun K hK => ?_
            go_simp
            refine hRi.mono ?_
            rintro e w5 ⟨rfl, rfl⟩
            clear hRi
            have hH2 := hHeld.out
            refine hK.out _ _ (Lib.hid (hH2)) ?_; clear hK K hHeld; intro hHeld
            try simp only [gA, gB, gC, Act.put, sA, sB, sC]
            refine hT 31 rfl (fun _ _ => by go_simp; all_goals with_reducible rfl) ?_
            try simp only [gA, gB, gC, Act.put, sA, sB, sC]
            refine hT 32 rfl (fun _ _ => by go_simp; all_goals with_reducible rfl) ?_
            try simp only [gA, gB, gC, Act.put, sA, sB, sC]
            refine wpAnyH_done (by kernel_rfl) ?_ _
            have MF := Lib.hid (HMr.out.trans hHeld.out)
            go_wp2
            go_roundw
            case rel => exact ⟨I + 1, hlt, by go_num, MF⟩
            case measure => simp [intOf]; omega
        · obtain rfl : i = T.L.length := by omega
          have t3 : decide ((T.L.length : Int) < (T.L.length : Int)) = false := by simp
          have t3' : decide (T.L.length < T.L.length) = false := by simp
          have hpos : decide ((0 : Int) < (T.L.length : Int)) = true := by simp; omega
          have hpos' : decide (0 < T.L.length) = true := by simp; omega
          have j2 : (0 : Int) < (T.L.length : Int) := by omega
          have H1 := HA8.out.mod HMr.out
          have r4 : wr.cell? ⟨g, o + 4, none⟩ = some (.int .u64 1) := by
            have h1 : wr.cell? ⟨g, o + 0 * 15 + 4, none⟩ = some (.int .u64 rt.path) := H1.el 0 rt HRT.out.1 4 _ rfl
            rw [HRT.out.2.1, Nat.zero_mul, Nat.add_zero] at h1
            exact h1
          have r13 : wr.cell? ⟨g, o + 13, none⟩ = some (.int .u64 1) := by
            have h1 : wr.cell? ⟨g, o + 0 * 15 + 13, none⟩ = some (.int .u64 rt.parent) := H1.el 0 rt HRT.out.1 13 _ rfl
            rw [HRT.out.2.2, Nat.zero_mul, Nat.add_zero] at h1
            exact h1
          have Mb : Hid (Mod (fun _ => False) W wr) := HS8.out.m.trans HMr.out
          clear H1
          go_wp2_with fail
          refine (works_any wr (HT.out.mod Mb.out)).mono ?_
          rintro e wb ⟨rfl, mb⟩
          have Mb2 : Hid (Mod (fun _ => False) W wb) := Mb.out.trans mb
          clear mb
          go_wp2
          go_ret
          exact ⟨rfl, Mb2.out⟩
end Go.Proofs.YtkcnbbjmkkaolaaGreatDoor
