/- A tree of files, plain: what is refused, or only looks, changes nothing; who may not write changes nothing.
   The document's tree: Wstat.
   The document's tree: Copy. -/
import Derived.Test.YtkcnbbjmkkaolaaGreatDoorQG13
import Derived.Test.YtkcnbbjmkkaolaaGreatDoorQG10
import Derived.Test.YtkcnbbjmkkaolaaGreatDoorQG00
set_option linter.unusedVariables false
set_option linter.unusedSimpArgs false
namespace Go.Proofs.YtkcnbbjmkkaolaaGreatDoor

theorem open_err {T : Tr} {p m : Nat} {who : ByteArray} {now : Nat} (h : (openT T p m who now).2.2 ≠ 0) : (openT T p m who now).1 = T := by
  unfold openT at h ⊢
  cases hn : look T.L p with
  | none => rfl
  | some n =>
    rw [hn] at h
    simp only at h ⊢
    by_cases e : openE T n m who ≠ 0
    · rw [if_pos e]
    · rw [if_neg e] at h
      split at h
      · exact absurd rfl h
      · exact absurd rfl h
theorem create_err {T : Tr} {p : Nat} {name who : ByteArray} {perm m now : Nat} (h : (createT T p name perm m who now).2.2 ≠ 0) : (createT T p name perm m who now).1 = T := by
  unfold createT at h ⊢
  cases hn : look T.L p with
  | none => rfl
  | some n =>
    rw [hn] at h
    simp only at h ⊢
    by_cases e : createE T n name perm m who ≠ 0
    · rw [if_pos e]
    · rw [if_neg e] at h
      exact absurd rfl h
theorem write_err {T : Tr} {p off : Nat} {d who : ByteArray} {now : Nat} (h : (writeT T p off d who now).2.2 ≠ 0) : (writeT T p off d who now).1 = T := by
  unfold writeT at h ⊢
  cases hn : look T.L p with
  | none => rfl
  | some n =>
    rw [hn] at h
    simp only at h ⊢
    by_cases e1 : n.dir = true
    · rw [if_pos e1]
    · rw [if_neg e1] at h ⊢
      by_cases e2 : 7168 < off + d.size
      · rw [if_pos e2]
      · rw [if_neg e2] at h ⊢
        by_cases e3 : d.size = 0
        · rw [if_pos e3]
        · rw [if_neg e3] at h
          exact absurd rfl h
theorem remove_err {T : Tr} {p : Nat} {who : ByteArray} {now : Nat} (h : (removeT T p who now).2 ≠ 0) : (removeT T p who now).1 = T := by
  unfold removeT at h ⊢
  cases hn : look T.L p with
  | none => rfl
  | some n =>
    rw [hn] at h
    simp only at h ⊢
    by_cases e : removeE T n who ≠ 0
    · rw [if_pos e]
    · rw [if_neg e] at h
      exact absurd rfl h
theorem wstat_err {T : Tr} {p : Nat} {s : St} {who : ByteArray} {now : Nat} (h : (wstatT T p s who now).2 ≠ 0) : (wstatT T p s who now).1 = T := by
  unfold wstatT at h ⊢
  cases hn : look T.L p with
  | none => rfl
  | some n =>
    rw [hn] at h
    simp only at h ⊢
    by_cases e : wstatE T n s who ≠ 0
    · rw [if_pos e]
    · rw [if_neg e] at h
      exact absurd rfl h
/-- all is a's, and no one else may write -/
def Grd (a : ByteArray) (T : Tr) : Prop := ∀ n ∈ T.L, n.uid = a ∧ n.gid = a ∧ n.perm &&& 2 = 0
theorem grd_may {a who : ByteArray} {T : Tr} (h : Grd a T) (hw : who ≠ a) {n : Nd} (hn : n ∈ T.L) : mayB n who 2 = false := by
  obtain ⟨h1, h2, h3⟩ := h n hn
  unfold mayB
  rw [h1, h2, if_neg hw, if_neg hw, Nat.and_assoc, show (7 &&& 2 : Nat) = 2 from rfl, h3]
  rfl
theorem grd_new (a : ByteArray) (now : Nat) : Grd a (newT a now) := fun n hn => by
  rw [show n = rootNd a now from List.mem_singleton.1 hn]
  exact ⟨rfl, rfl, by show (493 &&& 2 : Nat) = 0; decide⟩
theorem grd_upd {a : ByteArray} {T : Tr} {l : Nat} (h : Grd a T) (p : Nat) (f : Nd → Nd) (h1 : ∀ n, (f n).uid = n.uid) (h2 : ∀ n, (f n).gid = n.gid) (h3 : ∀ n, (f n).perm = n.perm) : Grd a { L := updN T.L p f, last := l } := fun n hn => by
  obtain ⟨m, hm, rfl⟩ := upd_mem hn
  split
  · rw [h1, h2, h3]; exact h m hm
  · exact h m hm
theorem grd_write {a : ByteArray} {T : Tr} (h : Grd a T) (p off : Nat) (d who : ByteArray) (now : Nat) : Grd a (writeT T p off d who now).1 := by
  unfold writeT
  cases hn : look T.L p with
  | none => exact h
  | some n =>
    show Grd a (if _ then _ else _ : Tr × Nat × Int).1
    split
    · exact h
    · split
      · exact h
      · split
        · exact h
        · exact grd_upd h p _ (fun _ => rfl) (fun _ => rfl) (fun _ => rfl)
theorem newPerm_two {b : Bool} {perm dp : Nat} (h : perm &&& 2 = 0) : newPerm b perm dp &&& 2 = 0 := by
  unfold newPerm
  rw [Nat.and_assoc perm, Nat.and_comm perm, Nat.and_assoc, h, Nat.and_zero]
theorem grd_create {a : ByteArray} {T : Tr} (h : Grd a T) (p : Nat) (name : ByteArray) (perm m now : Nat) (hp : perm &&& 2 = 0) : Grd a (createT T p name perm m a now).1 := by
  cases hd : look T.L p with
  | none => unfold createT; rw [hd]; exact h
  | some d =>
    rw [create_eq hd]
    split
    · exact h
    · unfold createT'
      intro n hn
      rcases List.mem_append.1 hn with x | x
      · exact (grd_upd (l := 0) h d.path (fun d => Nd.touch { d with kids := putKid d.kids (T.last + 1) } a now) (fun _ => rfl) (fun _ => rfl) (fun _ => rfl)) n x
      · rw [List.mem_singleton.1 x]
        exact ⟨rfl, (h d (look_some hd).1).2.1, newPerm_two hp⟩
theorem grd_openS {a who : ByteArray} {T : Tr} (h : Grd a T) (hw : who ≠ a) (p m now : Nat) : (openT T p m who now).1 = T := by
  by_cases e : (openT T p m who now).2.2 ≠ 0
  · exact open_err e
  · unfold openT at e ⊢
    cases hn : look T.L p with
    | none => rfl
    | some n =>
      rw [hn] at e
      simp only at e ⊢
      by_cases e1 : openE T n m who ≠ 0
      · rw [if_pos e1]
      · rw [if_neg e1]
        by_cases e2 : m &&& 16 ≠ 0
        · exfalso
          refine e1 ?_
          have hm := grd_may h hw (look_some hn).1
          unfold openE
          split
          · decide
          · split
            · decide
            · rw [if_pos (.inr ⟨e2, hm⟩)]; decide
        · rw [if_neg (fun x => e2 x.1)]
theorem grd_createS {a who : ByteArray} {T : Tr} (h : Grd a T) (hw : who ≠ a) (p : Nat) (name : ByteArray) (perm m now : Nat) : (createT T p name perm m who now).1 = T := by
  cases hd : look T.L p with
  | none => unfold createT; rw [hd]
  | some d =>
    rw [create_eq hd]
    by_cases e : createE T d name perm m who ≠ 0
    · rw [if_pos e]
    · have := (createE_zero e).2.1
      rw [grd_may h hw (look_some hd).1] at this
      cases this
theorem grd_removeS {a who : ByteArray} {T : Tr} (hf : WF T) (h : Grd a T) (hw : who ≠ a) (p now : Nat) : (removeT T p who now).1 = T := by
  cases hd : look T.L p with
  | none => unfold removeT; rw [hd]
  | some n =>
    rw [remove_eq hd]
    by_cases e : removeE T n who ≠ 0
    · rw [if_pos e]
    · have h1 := (removeE_zero e).2.1
      obtain ⟨d, hd'⟩ := hf.par n (look_some hd).1
      rw [show parOf T.L n = d from by unfold parOf; rw [hd']; rfl, grd_may h hw (look_some hd').1] at h1
      cases h1
theorem upd_id {L : List Nd} {p : Nat} {f : Nd → Nd} (h : ∀ n ∈ L, n.path = p → f n = n) : updN L p f = L := by
  unfold updN
  conv => rhs; rw [← List.map_id L]
  refine List.map_congr_left fun n hn => ?_
  split
  · rename_i e; rw [h n hn e]; rfl
  · rfl
theorem grd_wstatS {a who : ByteArray} {T : Tr} (hf : WF T) (h : Grd a T) (hw : who ≠ a) (p : Nat) (s : St) (now : Nat) : (wstatT T p s who now).1 = T := by
  cases hd : look T.L p with
  | none => unfold wstatT; rw [hd]
  | some n =>
    rw [wstat_eq hd]
    by_cases e : wstatE T n s who ≠ 0
    · rw [if_pos e]
    · rw [if_neg e]
      obtain ⟨e1, e2, e3, e4, e5⟩ := wstatE_zero e
      obtain ⟨hn, hp⟩ := look_some hd
      obtain ⟨u1, u2, u3⟩ := h n hn
      have hname : (filledS s (statOf n)).n = n.name := by
        apply Decidable.byContradiction
        intro x
        have h1 := (e1 x).2.2.1
        obtain ⟨d, hd'⟩ := hf.par n hn
        rw [show parOf T.L n = d from by unfold parOf; rw [hd']; rfl, grd_may h hw (look_some hd').1] at h1
        cases h1
      have hlen : (filledS s (statOf n)).len = n.data.size := by
        apply Decidable.byContradiction
        intro x
        have h1 := (e2 x).2.2
        rw [grd_may h hw hn] at h1
        cases h1
      have hmo : (filledS s (statOf n)).mo = modeOf n := by
        apply Decidable.byContradiction
        intro x
        exact hw ((e3 x).1.trans u1)
      have hg : (filledS s (statOf n)).g = n.gid := by
        apply Decidable.byContradiction
        intro x
        exact hw ((e4 x).1.trans u1)
      have hmt : (filledS s (statOf n)).mt = n.mtime := by
        apply Decidable.byContradiction
        intro x
        exact hw ((e5 x).trans u1)
      have hmt2 : (if s.mt ≠ 4294967295 then s.mt else n.mtime) = n.mtime := by
        by_cases x : s.mt = 4294967295
        · rw [if_neg (fun y => y x)]
        · rw [if_pos x]
          have h2 : orN s.mt 4294967295 n.mtime = n.mtime := hmt
          unfold orN at h2
          rw [if_neg x] at h2
          exact h2
      have hN : wstatN n s who now = n := by
        unfold wstatN
        simp only
        rw [if_neg (fun x => x hlen), hname, hmo, hg, hmt2, mode_perm (hf.ok n hn).perm]
      unfold wstatT'
      rw [if_neg (fun x => x hname), upd_id]
      intro m hm hmp
      have h6 := look_of hf.rise hm
      rw [hmp, look_of hf.rise hn] at h6
      injection h6 with h6
      rw [← h6]
      exact hN
end Go.Proofs.YtkcnbbjmkkaolaaGreatDoor
namespace Go.Proofs.YtkcnbbjmkkaolaaGreatDoor
open Go.RowKit

theorem idx_upd {L : List Nd} {q : Nat} {f : Nd → Nd} (hf : ∀ n, (f n).path = n.path) (p : Nat) : idxP (updN L q f) p = idxP L p := by
  unfold idxP updN
  rw [List.findIdx?_map]
  congr 1
  funext n
  simp only [Function.comp]
  split
  · rw [hf]
  · rfl
theorem upd_two {L : List Nd} {p : Nat} {f h : Nd → Nd} (hf : ∀ n, (f n).path = n.path) : updN (updN L p f) p h = updN L p fun n => h (f n) := by
  unfold updN
  rw [List.map_map]
  refine List.map_congr_left fun n _ => ?_
  simp only [Function.comp]
  by_cases e : n.path = p
  · rw [if_pos e, if_pos (by rw [hf]; exact e), if_pos e]
  · rw [if_neg e, if_neg e, if_neg e]
structure WsP (T : Tr) (p i : Nat) (m : Nd) : Prop where
  wf : WF T
  ix : idxP T.L p = some i
  lk : look T.L p = some m
theorem WsP.at_ {T : Tr} {p i : Nat} {m : Nd} (h : WsP T p i m) : T.L[i]? = some m := by
  have := h.lk
  rw [look_idx, h.ix] at this
  exact this
theorem WsP.path {T : Tr} {p i : Nat} {m : Nd} (h : WsP T p i m) : m.path = p := (look_some h.lk).2
theorem WsP.upd {T : Tr} {p i : Nat} {m : Nd} (h : WsP T p i m) (q : Nat) (f : Nd → Nd) (hp : ∀ n, (f n).path = n.path) (hr : ∀ n, (f n).parent = n.parent) (hk : ∀ n, (f n).kids = n.kids) (ho : ∀ n ∈ T.L, n.path = q → (f n).Ok) : WsP { T with L := updN T.L q f } p i (if p = q then f m else m) :=
  ⟨h.wf.upd q f hp hr hk ho, (idx_upd hp p).trans h.ix, by
    show look (updN T.L q f) p = _
    rw [upd_get hp, h.lk]
    show some (if m.path = q then f m else m) = _
    rw [h.path]⟩
theorem RTreeP.setU {w : World} {F : Nat → Prop} {b : Nat} {T : Tr} {g cap : Nat} {vks : Nat → Value} (h : RTreeP w F b T g cap vks) {p i : Nat} {m : Nd} (hw : WsP T p i m) (f : Nd → Nd) (hk : (f m).kids = m.kids) (c : Nat) (u : Value) (hc : c < 13) (hs : ndC (f m, vks i) = (ndC (m, vks i)).set c u) :
    RTreeP (w.setCell ⟨g, i * 13 + c, none⟩ u) F b { T with L := updN T.L p f } g cap vks ∧ Mod F w (w.setCell ⟨g, i * 13 + c, none⟩ u) := by
  obtain ⟨h1, h2⟩ := h.set hw.at_ hk c u hc hs
  refine ⟨?_, h2.mono fun k _ e => by rw [e]; exact h.fg⟩
  rw [stat_upd hw.wf.rise hw.ix hw.at_]
  exact h1
theorem rtouchU_any {w : World} {F : Nat → Prop} {b : Nat} {T : Tr} {g cap : Nat} {vks : Nat → Value} (h : RTreeP w F b T g cap vks) {p i : Nat} {m : Nd} (hw : WsP T p i m) (who : ByteArray) (now : Nat) :
    Calls Tryz.prog 103 #[.pointer (some ⟨b, 0, none⟩), .int .u64 p, .string who, .int .u32 now] w fun e w' => e = .returned (.tuple #[]) ∧ RTreeP w' F b { T with L := updN T.L p fun d => d.touch who now } g cap vks ∧ Mod F w w' := by
  refine (rtouch_any F b g cap T vks p i m who now w h hw.wf.len hw.ix hw.at_ (hw.wf.ok m (List.mem_of_getElem? hw.at_)).ver).mono ?_
  rintro e w' ⟨rfl, h1, h2⟩
  refine ⟨rfl, ?_, h2.mono fun k _ e => by rw [e]; exact h.fg⟩
  rw [stat_upd hw.wf.rise hw.ix hw.at_]
  exact h1
/-- what Wstat reads besides the tree -/
structure WsW (w W : World) (F : Nat → Prop) (b g cap : Nat) (T : Tr) (vks : Nat → Value) (S I U : Nat) (n : Nd) (s : St) : Prop where
  tr : RTreeP W F b T g cap vks
  hs : W.heap[S]? = some (stO s)
  hi : W.heap[I]? = some (stO (statOf n))
  hu : W.heap[U]? = some (stO St.un)
  m : Mod F w W
  nS : ¬ F S
  nI : ¬ F I
  nU : ¬ F U
theorem WsW.mod {w W W' : World} {F : Nat → Prop} {b g cap : Nat} {T T' : Tr} {vks : Nat → Value} {S I U : Nat} {n : Nd} {s : St} (h : WsW w W F b g cap T vks S I U n s) (hm : Mod F W W') (ht : RTreeP W' F b T' g cap vks) : WsW w W' F b g cap T' vks S I U n s :=
  ⟨ht, (hm.block _ (lt_of h.hs) h.nS).trans h.hs, (hm.block _ (lt_of h.hi) h.nI).trans h.hi, (hm.block _ (lt_of h.hu) h.nU).trans h.hu, h.m.trans hm, h.nS, h.nI, h.nU⟩
theorem WsW.mod0 {w W W' : World} {F : Nat → Prop} {b g cap : Nat} {T : Tr} {vks : Nat → Value} {S I U : Nat} {n : Nd} {s : St} (h : WsW w W F b g cap T vks S I U n s) (hm : Mod (fun _ => False) W W') : WsW w W' F b g cap T vks S I U n s :=
  h.mod (hm.mono fun _ _ x => x.elim) (h.tr.mod hm fun _ x => x.elim)
def RWst (F : Nat → Prop) (b g cap : Nat) (vks : Nat → Value) (R : Tr × Int) (w : World) (e : Ending) (w' : World) : Prop :=
  e = .returned (.int .i64 R.2) ∧ RTreeP w' F b R.1 g cap vks ∧ Mod F w w'
def pF (a : St) (m : Nd) : Nd := { m with perm := a.mo &&& 511 }
def gF (a : St) (m : Nd) : Nd := { m with gid := a.g }
theorem upd_keep {T : Tr} {p i : Nat} {m : Nd} (h : WsP T p i m) {f : Nd → Nd} (hf : f m = m) : updN T.L p f = T.L := upd_id fun x hx hp => by
  have h1 := look_of h.wf.rise hx
  rw [hp, h.lk] at h1
  injection h1 with h1
  rw [← h1]; exact hf
theorem wsp1 {T : Tr} {p i : Nat} {n : Nd} (h : WsP T p i n) (bl : Bool) (a : St) {who : ByteArray} {now : Nat} (hw : who.size ≤ 65536) (ht : now < 4294967296) (hl : bl = true → a.len ≤ 7168) :
    ∃ m, WsP { T with L := wL1 bl a who now p T.L } p i m ∧ m.parent = n.parent ∧ m.perm = n.perm ∧ m.gid = n.gid := by
  cases bl with
  | false => exact ⟨n, h, rfl, rfl, rfl⟩
  | true =>
    have h1 := h.upd p (wf1 a who now) (fun _ => rfl) (fun _ => rfl) (fun _ => rfl) (fun x hx _ => touch_ok (data_ok (h.wf.ok x hx) (by rw [sized_size]; exact hl rfl)) hw ht)
    rw [if_pos rfl] at h1
    exact ⟨_, h1, rfl, rfl, rfl⟩
theorem wsp2 {T : Tr} {p i : Nat} {n : Nd} (h : WsP T p i n) (q : Nat) (hq : p ≠ q) (bn : Bool) (a : St) {who : ByteArray} {now : Nat} (hw : who.size ≤ 65536) (ht : now < 4294967296) (hn : a.n.size ≤ 65536) :
    ∃ m, WsP { T with L := wL2 bn a who now p q T.L } p i m ∧ m.perm = n.perm ∧ m.gid = n.gid := by
  cases bn with
  | false => exact ⟨n, h, rfl, rfl⟩
  | true =>
    have h1 := h.upd p (wf2 a) (fun _ => rfl) (fun _ => rfl) (fun _ => rfl) (fun x hx _ => ⟨(h.wf.ok x hx).path, (h.wf.ok x hx).ver, (h.wf.ok x hx).perm, (h.wf.ok x hx).uid, (h.wf.ok x hx).gid, (h.wf.ok x hx).muid, (h.wf.ok x hx).atime, (h.wf.ok x hx).mtime, (h.wf.ok x hx).parent, hn, (h.wf.ok x hx).data, (h.wf.ok x hx).kl, (h.wf.ok x hx).kids⟩)
    have h2 := h1.upd q (wf3 who now) (fun _ => rfl) (fun _ => rfl) (fun _ => rfl) (fun x hx _ => touch_ok (h1.wf.ok x hx) hw ht)
    rw [if_pos rfl, if_neg hq] at h2
    exact ⟨_, h2, rfl, rfl⟩
theorem wsp3 {T : Tr} {p i : Nat} {n : Nd} (h : WsP T p i n) (a : St) : ∃ m, WsP { T with L := updN T.L p (pF a) } p i m ∧ m.gid = n.gid := by
  have h1 := h.upd p (pF a) (fun _ => rfl) (fun _ => rfl) (fun _ => rfl) (fun x hx _ => ⟨(h.wf.ok x hx).path, (h.wf.ok x hx).ver, by show a.mo &&& 511 < 512; have : a.mo &&& 511 ≤ 511 := Nat.and_le_right; omega, (h.wf.ok x hx).uid, (h.wf.ok x hx).gid, (h.wf.ok x hx).muid, (h.wf.ok x hx).atime, (h.wf.ok x hx).mtime, (h.wf.ok x hx).parent, (h.wf.ok x hx).name, (h.wf.ok x hx).data, (h.wf.ok x hx).kl, (h.wf.ok x hx).kids⟩)
  rw [if_pos rfl] at h1
  exact ⟨_, h1, rfl⟩
theorem wsp4 {T : Tr} {p i : Nat} {n : Nd} (h : WsP T p i n) (a : St) (hg : a.g.size ≤ 65536) : ∃ m, WsP { T with L := updN T.L p (gF a) } p i m := by
  have h1 := h.upd p (gF a) (fun _ => rfl) (fun _ => rfl) (fun _ => rfl) (fun x hx _ => ⟨(h.wf.ok x hx).path, (h.wf.ok x hx).ver, (h.wf.ok x hx).perm, (h.wf.ok x hx).uid, hg, (h.wf.ok x hx).muid, (h.wf.ok x hx).atime, (h.wf.ok x hx).mtime, (h.wf.ok x hx).parent, (h.wf.ok x hx).name, (h.wf.ok x hx).data, (h.wf.ok x hx).kl, (h.wf.ok x hx).kids⟩)
  exact ⟨_, h1⟩
set_option maxHeartbeats 16000000 in
set_option maxRecDepth 100000 in
theorem rWstat_any {w : World} {F : Nat → Prop} {b : Nat} {T : Tr} {g cap : Nat} {vks : Nat → Value} (h : RTreeP w F b T g cap vks) (hwf : WF T) (hTb : Tabs w) (p : Nat) (s : St) (who : ByteArray) (now : Nat) (hs : s.Bd) (hww : who.size ≤ 65536) (hnow : now < 4294967296) :
    Calls Tryz.prog 46 #[.pointer (some ⟨b, 0, none⟩), .int .u64 p, .agg s.cells.toArray, .string who, .int .u32 now] w (RWst F b g cap vks (wstatT T p s who now) w) := by
  have hl := hwf.len
  obtain ⟨W, hW⟩ : ∃ W, w.alloc (.cells s.cells.toArray 37) = W := ⟨_, rfl⟩
  have hS : W.heap[w.heap.size]? = some (stO s) := by subst hW; exact new_at _ _
  have m0 : Mod (fun _ => False) w W := by subst hW; exact (Mod.refl _ w).alloc _
  have hA := at_any b g cap T vks p W (h.rv.mod m0) hl
  have HSS : Hid (w.heap.size < W.heap.size) := lt_of hS
  have HS : Hid (wstatT T p s who now = match look T.L p with | none => (T, 180) | some n => if wstatE T n s who ≠ 0 then (T, wstatE T n s who) else ({ T with L := updN (if (filledS s (statOf n)).n ≠ n.name then updN T.L n.parent (fun d => Nd.touch d who now) else T.L) p fun n => wstatN n s who now }, 0)) := rfl
  have hK : ∀ (z : Int) (W' : World), wstatT T p s who now = (T, z) → Mod (fun _ => False) w W' → RWst F b g cap vks (wstatT T p s who now) w (.returned (.int .i64 z)) W' := fun z W' hz hm => by
    rw [hz]; exact ⟨rfl, h.mod hm (fun _ x => x.elim), hm.mono fun _ _ x => x.elim⟩
  have HK := Lib.hid hK
  have H := Lib.hid h
  have M0 := Lib.hid m0
  have HS0 := Lib.hid hS
  have HWF := Lib.hid hwf
  have HT := Lib.hid (hTb.mod m0)
  have hln := st_len s
  clear h hwf hTb hS m0 hK
  cases hlk : look T.L p with
  | none =>
    rw [atI_none hlk] at hA
    have HV : Hid (wstatT T p s who now = (T, 180)) := by show _ = _; rw [HS.out, hlk]
    clear HS hlk
    go_enter Tryz.func46, Tryz.ntmps46
    go_wp2_with fail
    refine hA.mono ?_
    rintro e w1 ⟨rfl, rfl⟩
    clear hA hW
    go_wp2
    go_ret
    exact HK.out _ _ HV.out M0.out
  | some n =>
  obtain ⟨i, hi, hn, hil⟩ := look_get hlk
  rw [atI_some hi] at hA
  have HP0 : Hid (WsP T p i n) := ⟨HWF.out, hi, hlk⟩
  have HS2 : Hid (wstatT T p s who now = if wstatE T n s who ≠ 0 then (T, wstatE T n s who) else ({ T with L := updN (if (filledS s (statOf n)).n ≠ n.name then updN T.L n.parent (fun d => Nd.touch d who now) else T.L) p fun n => wstatN n s who now }, 0)) := by show _ = _; rw [HS.out, hlk]
  have hno := HWF.out.ok n (List.mem_of_getElem? hn)
  have HE := Lib.hid (asks_wstat T n s who hs.ok.mo hno.perm)
  have hR0 := H.out.rv.mod M0.out
  have c0 := hR0.c0
  have t1 : decide ((i : Int) < 0) = false := by simp
  have i1 : (0 : Int) ≤ (i : Int) := by omega
  have i2 : (i : Int) < (T.L.length : Int) := by omega
  have hcap := hR0.cap
  have i3 : (T.L.length : Int) ≤ (cap : Int) := by omega
  have hre : W.rangeAt g (i * 13) (ndC (n, vks i)) := hR0.elem hn
  have hln2 := ndC_len (n, vks i)
  have hSt := rstat_any n (vks i) W hno
  have HNO := Lib.hid hno
  have HN := Lib.hid hn
  clear HS hi hlk hn hno hR0
  go_enter Tryz.func46, Tryz.ntmps46
  go_wp2_with fail
  refine hA.mono ?_
  rintro e w1 ⟨rfl, rfl⟩
  clear hA hW
  go_wp2_with (refine wpList_load_mid rfl 83 (.tmp 25) rfl g (i * 13) rfl (ndC (n, vks i)) _ hre Tryz.underlying83 rfl (by kernel_rfl) ?_)
  refine hSt.mono ?_
  rintro e V2 ⟨rfl, m2⟩
  clear hSt hre c0
  go_upto_region 5 with (refine wpl_store_row rfl 37 (.tmp 12) (.tmp 27) rfl rfl V2.heap.size (statOf n).cells rfl rfl 37 _ (new_at _ _) rfl (st_one _) (by kernel_rfl) ?_; intro V3 hi3 mi3)
  have m3 : Mod (fun _ => False) W V3 := (m2.alloc _).trans' mi3 fun k hk e => by have := m2.size; omega
  have HIs : Hid (w.heap.size < V2.heap.size) := by have h1 := HSS.out; have := m2.size; show _ < _; omega
  generalize hIb : V2.heap.size = I at *
  have HI3 : Hid (V3.heap[I]? = some (stO (statOf n))) := hi3
  have M3 := Lib.hid m3
  have hUn := runt_any V3
  clear hi3 mi3 m2 m3 hIb
  go_wp2_with fail
  refine hUn.mono ?_
  rintro e V4 ⟨rfl, m4⟩
  clear hUn
  go_upto_region 6 with (refine wpl_store_row rfl 37 (.tmp 13) (.tmp 28) rfl rfl V4.heap.size St.un.cells rfl rfl 37 _ (new_at _ _) rfl (st_one _) (by kernel_rfl) ?_; intro V5 hu5 mu5)
  have m5 : Mod (fun _ => False) V3 V5 := (m4.alloc _).trans' mu5 fun k hk e => by have := m4.size; omega
  have HUs : Hid (w.heap.size < V4.heap.size) := by have h1 := HSS.out; have := M3.out.size; have := m4.size; show _ < _; omega
  generalize hUb : V4.heap.size = U at *
  have HW : Hid (WsW w V5 F b g cap T vks w.heap.size I U n s) := by
    have mA := M3.out.trans m5
    have hF : ∀ k, w.heap.size ≤ k → ¬ F k := fun k hk e => by have := H.out.lt k e; omega
    exact ⟨H.out.mod (M0.out.trans mA) (fun _ x => x.elim), (mA.block _ (lt_of HS0.out) (fun x => x)).trans HS0.out, (m5.block _ (lt_of HI3.out) (fun x => x)).trans HI3.out, hu5, (M0.out.trans mA).mono fun _ _ x => x.elim, hF _ (Nat.le_refl _), hF _ (Nat.le_of_lt HIs.out), hF _ (Nat.le_of_lt HUs.out)⟩
  have M5 : Hid (Mod (fun _ => False) w V5) := M0.out.trans (M3.out.trans m5)
  have HT5 : Hid (Tabs V5) := HT.out.mod (M3.out.trans m5)
  clear m4 mu5 m5 hu5 hUb HS0 M0 HI3 M3 HT HIs HUs HSS
  generalize hSb : w.heap.size = S at *
  have HSB := Lib.hid hSb
  clear hSb
  have hrs := st_rng HW.out.hs
  have hri := st_rng HW.out.hi
  have hli := st_len (statOf n)
  have hFx := rfixed_any s (statOf n) V5
  go_wp2_with (first | refine wpList_load_mid rfl 37 (.tmp 7) rfl S 0 rfl s.cells _ hrs Tryz.underlying37 rfl (by kernel_rfl) ?_ | refine wpList_load_mid rfl 37 (.tmp 12) rfl I 0 rfl (statOf n).cells _ hri Tryz.underlying37 rfl (by kernel_rfl) ?_)
  refine hFx.mono ?_
  rintro e V6 ⟨rfl, m6⟩
  have HW6 := Lib.hid (HW.out.mod0 m6)
  have M6 : Hid (Mod (fun _ => False) w V6) := M5.out.trans m6
  have HT6 : Hid (Tabs V6) := HT5.out.mod m6
  clear hFx hrs hri hli m6 HW M5 HT5
  cases hfx : fixedB s (statOf n) with
  | false =>
    have HV : Hid (wstatT T p s who now = (T, 186)) := by
      have he := HE.out.trans (if_pos hfx)
      show _ = _; rw [HS2.out, he]; rfl
    clear HS2 HE
    go_wp2
    go_ret
    exact HK.out _ _ HV.out M6.out
  | true =>
  have HE2 := Lib.hid (HE.out.trans (if_neg (by rw [hfx]; simp)))
  clear HE hfx
  have hrs := st_rng HW6.out.hs
  have hAs := rasks_any b g cap T vks i n s who V6 HW6.out.tr.rv HWF.out HN.out hs HT6.out
  go_wp2_with (refine wpList_load_mid rfl 37 (.tmp 7) rfl S 0 rfl s.cells _ hrs Tryz.underlying37 rfl (by kernel_rfl) ?_)
  refine hAs.mono ?_
  rintro e V7 ⟨rfl, m7⟩
  have HW7 := Lib.hid (HW6.out.mod0 m7)
  have M7 : Hid (Mod (fun _ => False) w V7) := M6.out.trans m7
  clear hAs hrs m7 HW6 M6 HT6
  obtain ⟨z, hz⟩ : ∃ z, asksE T n s who = z := ⟨_, rfl⟩
  rw [hz] at HE2 ⊢
  clear hz
  by_cases hz0 : z = 0
  case neg =>
    have t2 : (z != 0) = true := by simpa using hz0
    have HV : Hid (wstatT T p s who now = (T, z)) := by show _ = _; rw [HS2.out, HE2.out, if_pos hz0]
    clear HS2 HE2
    go_wp2
    go_ret
    exact HK.out _ _ HV.out M7.out
  subst hz0
  obtain ⟨a, ha⟩ : ∃ a, filledS s (statOf n) = a := ⟨_, rfl⟩
  have HZ := Lib.hid (wstatE_zero (T := T) (n := n) (s := s) (who := who) (by rw [HE2.out]; simp))
  rw [ha] at HZ
  have HV : Hid (wstatT T p s who now = (wstatT' T n s who now, 0)) := by
    show _ = _
    rw [HS2.out, if_neg (by rw [HE2.out]; simp)]
    unfold wstatT'
    rw [HP0.out.path]
  clear HS2 HE2 HK M7
  obtain ⟨bl, hbl⟩ : ∃ x, decide (a.len ≠ n.data.size) = x := ⟨_, rfl⟩
  obtain ⟨bn, hbn⟩ : ∃ x, decide (a.n ≠ n.name) = x := ⟨_, rfl⟩
  have HA := Lib.hid ha
  have BL := Lib.hid hbl
  have BN := Lib.hid hbn
  clear ha hbl hbn
  go_upto_region 11 with (fail)
  go_cut [52] from 41 to 52 (fun v wx => v = .bool bl ∧ V7 = wx)
  case first =>
    have c1 : V7.cell? ⟨S, 8, none⟩ = some (.int .u64 s.len) := (cell_of HW7.out.hs 8).trans rfl
    have c2 : V7.cell? ⟨U, 8, none⟩ = some (.int .u64 18446744073709551615) := (cell_of HW7.out.hu 8).trans rfl
    have c3 : V7.cell? ⟨I, 8, none⟩ = some (.int .u64 n.data.size) := (cell_of HW7.out.hi 8).trans rfl
    have hb : bl = (!decide (s.len = 18446744073709551615) && !decide (s.len = n.data.size)) := by
      rw [← BL.out, ← HA.out, Bool.eq_iff_iff]
      have := orN_ne s.len 18446744073709551615 n.data.size
      simp only [decide_eq_true_eq, Bool.and_eq_true, Bool.not_eq_true', decide_eq_false_iff_not]
      exact this
    obtain ⟨el, hel⟩ : ∃ x, decide (s.len = 18446744073709551615) = x := ⟨_, rfl⟩
    have y1 : ((s.len : Int) != 18446744073709551615) = !el := by rw [← hel, Bool.eq_iff_iff]; simp; omega
    obtain ⟨ql, hql⟩ : ∃ x, decide (s.len = n.data.size) = x := ⟨_, rfl⟩
    have y2 : ((s.len : Int) != (n.data.size : Int)) = !ql := by rw [← hql, Bool.eq_iff_iff]; simp; omega
    rw [hel, hql] at hb
    have HB := Lib.hid hb
    clear hel hql hb
    cases el with
    | true =>
      go_wp2
      go_meet
      case rel => exact ⟨by rw [HB.out]; rfl, rfl⟩
    | false =>
      go_wp2
      go_meet
      case rel => exact ⟨by rw [HB.out]; rfl, rfl⟩
  case rest =>
  obtain ⟨rfl, rfl⟩ := hcut
  go_upto_if 52 with (fail)
  go_cut [76] from 53 to 75 (fun _ wx => Hid (WsW w wx F b g cap { T with L := wL1 bl a who now p T.L } vks S I U n s))
  case first =>
    cases bl with
    | false =>
      go_wp2
      go_meet
      case rel => exact HW7
    | true =>
    have hne : a.len ≠ n.data.size := of_decide_eq_true BL.out
    have hal : a.len = s.len := by
      rw [← HA.out] at hne ⊢
      show orN s.len 18446744073709551615 n.data.size = _
      have h1 : orN s.len 18446744073709551615 n.data.size ≠ n.data.size := hne
      unfold orN at h1 ⊢
      split
      · rename_i e; rw [if_pos e] at h1; exact absurd rfl h1
      · rfl
    have hle : s.len ≤ 7168 := by rw [← hal]; exact (HZ.out.2.1 hne).2.1
    have hdl := HNO.out.data
    have HAL := Lib.hid hal
    have c0 := HW7.out.tr.rv.c0
    have e11 : V7.cell? ⟨g, i * 13 + 11, none⟩ = some (.string n.data) := HW7.out.tr.rv.el i n HN.out 11 _ rfl
    have s8 : V7.cell? ⟨S, 8, none⟩ = some (.int .u64 s.len) := (cell_of HW7.out.hs 8).trans rfl
    have hSz := fun U => rsized_any n.data s.len U (by omega) (by omega)
    have hw : IntKind.i64.wrap (s.len : Int) = s.len := by rw [IntKind.wrap_i64]; omega
    clear hne hal
    go_upto_region 12 with (fail)
    refine wp_region_then3 (k := 19) (S := fun w' => Hid (Mod (fun _ => False) V7 w')) _ _ rfl rfl rfl (by kernel_rfl) (by kernel_rfl) (Lib.hid (Mod.refl (fun _ => False) V7).drew) (fun hHeld => ?_)
    simp only [List.take_succ_cons, List.take_zero]
    refine hT 0 rfl (fun _ _ => by go_simp; all_goals with_reducible rfl) ?_
    try simp only [gA, gB, gC, Act.put, sA, sB, sC]
    refine hT 1 rfl (fun _ _ => by go_simp; all_goals with_reducible rfl) ?_
    try simp only [gA, gB, gC, Act.put, sA, sB, sC]
    refine hT 2 rfl (fun _ _ => by go_simp; all_goals with_reducible rfl) ?_
    try simp only [gA, gB, gC, Act.put, sA, sB, sC]
    refine hT 3 rfl (fun wH hSw => by have cH := keepN hSw.out c0; clear hSw; go_simp; all_goals with_reducible rfl) ?_
    try simp only [gA, gB, gC, Act.put, sA, sB, sC]
    refine hT 4 rfl (fun _ _ => by go_simp; all_goals with_reducible rfl) ?_
    try simp only [gA, gB, gC, Act.put, sA, sB, sC]
    refine hT 5 rfl (fun _ _ => by go_simp; all_goals with_reducible rfl) ?_
    try simp only [gA, gB, gC, Act.put, sA, sB, sC]
    refine hT 6 rfl (fun _ _ => by go_simp; all_goals with_reducible rfl) ?_
    try simp only [gA, gB, gC, Act.put, sA, sB, sC]
    refine hT 7 rfl (fun _ _ => by go_simp; all_goals with_reducible rfl) ?_
    try simp only [gA, gB, gC, Act.put, sA, sB, sC]
    refine hT 8 rfl (fun wH hSw => by have cH := keepN hSw.out c0; clear hSw; go_simp; all_goals with_reducible rfl) ?_
    try simp only [gA, gB, gC, Act.put, sA, sB, sC]
    refine hT 9 rfl (fun _ _ => by go_simp; all_goals with_reducible rfl) ?_
    try simp only [gA, gB, gC, Act.put, sA, sB, sC]
    refine hT 10 rfl (fun _ _ => by go_simp; all_goals with_reducible rfl) ?_
    try simp only [gA, gB, gC, Act.put, sA, sB, sC]
    refine hT 11 rfl (fun _ _ => by go_simp; all_goals with_reducible rfl) ?_
    try simp only [gA, gB, gC, Act.put, sA, sB, sC]
    refine hT 12 rfl (fun wH hSw => by have cH := keepN hSw.out e11; clear hSw; go_simp; all_goals with_reducible rfl) ?_
    try simp only [gA, gB, gC, Act.put, sA, sB, sC]
    refine hT 13 rfl (fun _ _ => by go_simp; all_goals with_reducible rfl) ?_
    try simp only [gA, gB, gC, Act.put, sA, sB, sC]
    refine hT 14 rfl (fun wH hSw => by have cH := keepN hSw.out s8; clear hSw; go_simp; all_goals with_reducible rfl) ?_
    try simp only [gA, gB, gC, Act.put, sA, sB, sC]
    refine hT 15 rfl (fun _ _ => by go_simp; all_goals with_reducible rfl) ?_
    try simp only [gA, gB, gC, Act.put, sA, sB, sC]
    refine hR1 16 rfl fun K hK => ?_
    go_simp
    refine (hSz _).mono ?_
    rintro e w4 ⟨rfl, m4⟩
    refine hK.out _ _ (Lib.hid (hHeld.out.trans m4)) ?_; clear hK K hHeld; intro hHeld
    try simp only [gA, gB, gC, Act.put, sA, sB, sC]
    refine hT 17 rfl (fun _ _ => by go_simp; all_goals with_reducible rfl) ?_
    try simp only [gA, gB, gC, Act.put, sA, sB, sC]
    refine hT 18 rfl (fun _ _ => by go_simp; all_goals with_reducible rfl) ?_
    try simp only [gA, gB, gC, Act.put, sA, sB, sC]
    refine wpAnyH_done (by kernel_rfl) ?_ _
    have HW4 := Lib.hid (HW7.out.mod0 hHeld.out)
    have ef := keepN hHeld.out e11
    have zf : w4.frozen? ⟨g, i * 13 + 11, none⟩ = false := HW4.out.tr.free hil (by decide)
    intro K hK
    go_simp
    refine hK _ _ ?_
    clear hK K
    obtain ⟨h5, m5⟩ := HW4.out.tr.setU HP0.out (fun m => { m with data := sizedB m.data s.len }) rfl 11 (.string (sizedB n.data s.len)) (by decide) rfl
    generalize w4.setCell ⟨g, i * 13 + 11, none⟩ (.string (sizedB n.data s.len)) = w5 at *
    have HW5 := Lib.hid (HW4.out.mod m5 h5)
    have hp5 := HP0.out.upd p (fun m => { m with data := sizedB m.data s.len }) (fun _ => rfl) (fun _ => rfl) (fun _ => rfl) (fun x hx _ => data_ok (HWF.out.ok x hx) (by rw [sized_size]; exact hle))
    have hTo := rtouchU_any h5 hp5 who now
    clear h5 m5 hp5 ef zf HW4 hHeld c0 e11 s8 hSz
    go_wp2_with fail
    refine hTo.mono ?_
    rintro e w6 ⟨rfl, h6, m6⟩
    have HW6 := Lib.hid (HW5.out.mod m6 h6)
    clear hTo h6 m6 HW5
    go_wp2
    go_meet
    case rel =>
      have e1 : wL1 true a who now p T.L = updN (updN T.L p fun m => { m with data := sizedB m.data s.len }) p fun d => d.touch who now := by
        rw [upd_two (f := fun m => { m with data := sizedB m.data s.len }) (fun _ => rfl)]
        show updN T.L p (wf1 a who now) = _
        unfold wf1
        rw [HAL.out]
      rw [e1]
      exact HW6
  case rest =>
  have HWa := hcut
  obtain ⟨n1, hp1, hpa1, hpe1, hgi1⟩ := wsp1 HP0.out bl a hww hnow (fun e => (HZ.out.2.1 (of_decide_eq_true (BL.out.trans e))).2.1)
  have HP1 := Lib.hid hp1
  have HQ1 : Hid (n1.parent = n.parent ∧ n1.perm = n.perm ∧ n1.gid = n.gid) := ⟨hpa1, hpe1, hgi1⟩
  have HV2 : Hid (wstatT T p s who now = (wstatT' T n s who now, 0) ∧ (bn = true → n.path ≠ 1)) := ⟨HV.out, fun e => (HZ.out.1 (of_decide_eq_true (BN.out.trans e))).1⟩
  obtain ⟨L1, hL1⟩ : ∃ L1, wL1 bl a who now p T.L = L1 := ⟨_, rfl⟩
  rw [hL1] at HWa HP1
  have HL1 := Lib.hid hL1
  clear hcut hp1 hpa1 hpe1 hgi1 HW7 HV hL1
  generalize wc = X1 at *
  go_upto_region 14 with (fail)
  go_cut [86] from 77 to 86 (fun v wx => v = .bool bn ∧ X1 = wx)
  case first =>
    have c1 : X1.cell? ⟨S, 9, none⟩ = some (.string s.n) := (cell_of HWa.out.hs 9).trans rfl
    have c3 : X1.cell? ⟨I, 9, none⟩ = some (.string n.name) := (cell_of HWa.out.hi 9).trans rfl
    have hb : bn = (!decide (s.n.size = 0) && !decide (s.n = n.name)) := by
      rw [← BN.out, ← HA.out, Bool.eq_iff_iff]
      have := orS_ne s.n n.name
      simp only [decide_eq_true_eq, Bool.and_eq_true, Bool.not_eq_true', decide_eq_false_iff_not]
      exact this
    obtain ⟨en, hen⟩ : ∃ x, decide (s.n.size = 0) = x := ⟨_, rfl⟩
    have x1 : s.n.toList.isEmpty = en := by rw [empty_beq, ← hen]
    obtain ⟨qn, hqn⟩ : ∃ x, decide (s.n = n.name) = x := ⟨_, rfl⟩
    have x2 : (s.n.toList == n.name.toList) = qn := by rw [← hqn, Bool.eq_iff_iff]; simp; exact ⟨toList_inj, fun e => by rw [e]⟩
    rw [hen, hqn] at hb
    have HB := Lib.hid hb
    clear hen hqn hb
    cases en with
    | true =>
      go_wp2
      go_meet
      case rel => exact ⟨by rw [HB.out]; rfl, rfl⟩
    | false =>
      go_wp2
      go_meet
      case rel => exact ⟨by rw [HB.out]; rfl, rfl⟩
  case rest =>
  obtain ⟨rfl, rfl⟩ := hcut
  go_upto_if 86 with (fail)
  go_cut [107] from 87 to 106 (fun _ wx => Hid (WsW w wx F b g cap { T with L := wL2 bn a who now p n.parent L1 } vks S I U n s))
  case first =>
    cases bn with
    | false =>
      go_wp2
      go_meet
      case rel => exact HWa
    | true =>
    have hne : a.n ≠ n.name := of_decide_eq_true BN.out
    have hal : a.n = s.n := by
      rw [← HA.out] at hne ⊢
      show orS s.n n.name = _
      have h1 : orS s.n n.name ≠ n.name := hne
      unfold orS at h1 ⊢
      split
      · rename_i e; rw [if_pos e] at h1; exact absurd rfl h1
      · rfl
    have HAL := Lib.hid hal
    have hn1 := HP1.out.at_
    have hil1 : i < L1.length := (List.getElem?_eq_some_iff.1 hn1).1
    have c0 : X1.cell? ⟨b, 0, none⟩ = some (.slice (some ⟨g, 0, none⟩) L1.length cap) := HWa.out.tr.rv.c0
    have hc1 : L1.length ≤ cap := HWa.out.tr.rv.cap
    have k2 : (i : Int) < (L1.length : Int) := by omega
    have k3 : (L1.length : Int) ≤ (cap : Int) := by omega
    have e10 : X1.cell? ⟨g, i * 13 + 10, none⟩ = some (.string n1.name) := HWa.out.tr.rv.el i n1 hn1 10 _ rfl
    have z10 : X1.frozen? ⟨g, i * 13 + 10, none⟩ = false := HWa.out.tr.free hil1 (by decide)
    have s9 : X1.cell? ⟨S, 9, none⟩ = some (.string s.n) := (cell_of HWa.out.hs 9).trans rfl
    clear hne hal hn1
    go_upto_region 15 with (fail)
    refine wp_region_then3 (k := 9) (S := fun w' => Hid (Mod (fun _ => False) X1 w')) _ _ rfl rfl rfl (by kernel_rfl) (by kernel_rfl) (Lib.hid (Mod.refl (fun _ => False) X1).drew) (fun hHeld => ?_)
    simp only [List.take_succ_cons, List.take_zero]
    refine hT 0 rfl (fun _ _ => by go_simp; all_goals with_reducible rfl) ?_
    try simp only [gA, gB, gC, Act.put, sA, sB, sC]
    refine hT 1 rfl (fun _ _ => by go_simp; all_goals with_reducible rfl) ?_
    try simp only [gA, gB, gC, Act.put, sA, sB, sC]
    refine hT 2 rfl (fun _ _ => by go_simp; all_goals with_reducible rfl) ?_
    try simp only [gA, gB, gC, Act.put, sA, sB, sC]
    refine hT 3 rfl (fun wH hSw => by have cH := keepN hSw.out c0; clear hSw; go_simp; all_goals with_reducible rfl) ?_
    try simp only [gA, gB, gC, Act.put, sA, sB, sC]
    refine hT 4 rfl (fun _ _ => by go_simp; all_goals with_reducible rfl) ?_
    try simp only [gA, gB, gC, Act.put, sA, sB, sC]
    refine hT 5 rfl (fun _ _ => by go_simp; all_goals with_reducible rfl) ?_
    try simp only [gA, gB, gC, Act.put, sA, sB, sC]
    refine hT 6 rfl (fun wH hSw => by have cH := keepN hSw.out s9; clear hSw; go_simp; all_goals with_reducible rfl) ?_
    try simp only [gA, gB, gC, Act.put, sA, sB, sC]
    refine hT 7 rfl (fun _ _ => by go_simp; all_goals with_reducible rfl) ?_
    try simp only [gA, gB, gC, Act.put, sA, sB, sC]
    refine hT 8 rfl (fun _ _ => by go_simp; all_goals with_reducible rfl) ?_
    try simp only [gA, gB, gC, Act.put, sA, sB, sC]
    refine wpAnyH_done (by kernel_rfl) ?_ _
    intro K hK
    go_simp
    refine hK _ _ ?_
    clear hK K
    have hdr := Mod.ofDrew (Mod.refl (fun _ => False) (X1.setCell ⟨g, i * 13 + 10, none⟩ (.string s.n)).drew)
    obtain ⟨h5, m5⟩ := HWa.out.tr.setU HP1.out (fun m => { m with name := s.n }) rfl 10 (.string s.n) (by decide) rfl
    generalize (X1.setCell ⟨g, i * 13 + 10, none⟩ (.string s.n)).drew = X2 at hdr ⊢
    have HW5 := Lib.hid ((HWa.out.mod m5 h5).mod0 hdr)
    have hp5 := HP1.out.upd p (fun m => { m with name := s.n }) (fun _ => rfl) (fun _ => rfl) (fun _ => rfl) (fun x hx _ => ⟨(HP1.out.wf.ok x hx).path, (HP1.out.wf.ok x hx).ver, (HP1.out.wf.ok x hx).perm, (HP1.out.wf.ok x hx).uid, (HP1.out.wf.ok x hx).gid, (HP1.out.wf.ok x hx).muid, (HP1.out.wf.ok x hx).atime, (HP1.out.wf.ok x hx).mtime, (HP1.out.wf.ok x hx).parent, hs.n, (HP1.out.wf.ok x hx).data, (HP1.out.wf.ok x hx).kl, (HP1.out.wf.ok x hx).kids⟩)
    rw [if_pos rfl] at hp5
    obtain ⟨L2, hL2⟩ : ∃ L2, updN L1 p (fun m => { m with name := s.n }) = L2 := ⟨_, rfl⟩
    rw [hL2] at hp5
    have HW5' : Hid (WsW w X2 F b g cap { T with L := L2 } vks S I U n s) := by show WsW _ _ _ _ _ _ _ _ _ _ _ _ _; rw [← hL2]; exact HW5.out
    obtain ⟨d5, hd5⟩ := hp5.wf.par _ (List.mem_of_getElem? hp5.at_)
    have hd6 : look L2 n.parent = some d5 := by rw [← HQ1.out.1]; exact hd5
    obtain ⟨q5, hq5, hqd5, hql5⟩ := look_get hd6
    have hTo := rtouchU_any HW5'.out.tr (p := n.parent) (i := q5) (m := d5) ⟨hp5.wf, hq5, hd6⟩ who now
    have d0 : X2.cell? ⟨b, 0, none⟩ = some (.slice (some ⟨g, 0, none⟩) L2.length cap) := HW5'.out.tr.rv.c0
    have d9 : X2.cell? ⟨g, i * 13 + 9, none⟩ = some (.int .u64 n.parent) := (HW5'.out.tr.rv.el i _ hp5.at_ 9 _ rfl).trans (by rw [← HQ1.out.1])
    have hil2 : i < L2.length := (List.getElem?_eq_some_iff.1 hp5.at_).1
    have hc2 : L2.length ≤ cap := HW5'.out.tr.rv.cap
    have k4 : (i : Int) < (L2.length : Int) := by omega
    have k5 : (L2.length : Int) ≤ (cap : Int) := by omega
    have HL2 := Lib.hid hL2
    clear h5 m5 hp5 hdr HW5 hL2 hd5 hd6 hq5 hqd5 hHeld c0 e10 z10 s9 k2 k3
    go_wp2_with fail
    refine hTo.mono ?_
    rintro e w6 ⟨rfl, h6, m6⟩
    have HW6 := Lib.hid (HW5'.out.mod m6 h6)
    clear hTo h6 m6 HW5' d0 d9
    go_wp2
    go_meet
    case rel =>
      have e1 : wL2 true a who now p n.parent L1 = updN L2 n.parent fun d => d.touch who now := by
        rw [← HL2.out]
        show updN (updN L1 p (wf2 a)) n.parent (wf3 who now) = _
        unfold wf2 wf3
        rw [HAL.out]
      rw [e1]
      exact HW6
  case rest =>
  have HWb := hcut
  have hup : bn = true → p ≠ n.parent := fun e => by
    have h1 := HV2.out.2 e
    have h2 := HWF.out.up n (List.mem_of_getElem? HN.out) h1
    have h3 := HP0.out.path
    omega
  have han : a.n.size ≤ 65536 := by
    rw [← HA.out]; show (orS s.n n.name).size ≤ _
    unfold orS; split
    · exact HNO.out.name
    · exact hs.n
  obtain ⟨n2, hp2, hpe2, hgi2⟩ : ∃ m, WsP { T with L := wL2 bn a who now p n.parent L1 } p i m ∧ m.perm = n1.perm ∧ m.gid = n1.gid := by
    cases bn with
    | false => exact ⟨n1, HP1.out, rfl, rfl⟩
    | true => exact wsp2 HP1.out n.parent (hup rfl) true a hww hnow han
  have HP2 := Lib.hid hp2
  have HQ2 : Hid (n2.perm = n.perm ∧ n2.gid = n.gid) := ⟨hpe2.trans HQ1.out.2.1, hgi2.trans HQ1.out.2.2⟩
  obtain ⟨L2, hL2⟩ : ∃ L2, wL2 bn a who now p n.parent L1 = L2 := ⟨_, rfl⟩
  rw [hL2] at HWb HP2
  have HL2 := Lib.hid hL2
  clear hcut hp2 hpe2 hgi2 HWa hL2 hup han HP1 HQ1
  generalize wc = X2 at *
  obtain ⟨em, hem⟩ : ∃ x, decide (s.mo = 4294967295) = x := ⟨_, rfl⟩
  have z1 : ((s.mo : Int) != 4294967295) = !em := by rw [← hem, Bool.eq_iff_iff]; simp; omega
  have HEM := Lib.hid hem
  clear hem
  have c1 : X2.cell? ⟨S, 5, none⟩ = some (.int .u32 s.mo) := (cell_of HWb.out.hs 5).trans rfl
  have c2 : X2.cell? ⟨U, 5, none⟩ = some (.int .u32 4294967295) := (cell_of HWb.out.hu 5).trans rfl
  go_upto_if 112 with (fail)
  go_cut [122] from 108 to 121 (fun _ wx => Hid (WsW w wx F b g cap { T with L := updN L2 p (pF a) } vks S I U n s))
  case first =>
    cases em with
    | true =>
      have e1 : updN L2 p (pF a) = L2 := upd_keep HP2.out (by
        unfold pF
        rw [← HA.out]
        show ({ n2 with perm := orN s.mo 4294967295 (modeOf n) &&& 511 } : Nd) = n2
        unfold orN
        rw [if_pos (of_decide_eq_true HEM.out), mode_perm HNO.out.perm, ← HQ2.out.1])
      have HW9 : Hid (WsW w X2 F b g cap { T with L := updN L2 p (pF a) } vks S I U n s) := by show WsW _ _ _ _ _ _ _ _ _ _ _ _ _; rw [e1]; exact HWb.out
      clear e1
      go_wp2
      go_meet
      case rel => exact HW9
    | false =>
    have hal : a.mo = s.mo := by
      rw [← HA.out]
      show orN s.mo 4294967295 (modeOf n) = _
      unfold orN
      rw [if_neg (of_decide_eq_false HEM.out)]
    have HAL := Lib.hid hal
    have hn1 := HP2.out.at_
    have hil1 : i < L2.length := (List.getElem?_eq_some_iff.1 hn1).1
    have c0 : X2.cell? ⟨b, 0, none⟩ = some (.slice (some ⟨g, 0, none⟩) L2.length cap) := HWb.out.tr.rv.c0
    have hc1 : L2.length ≤ cap := HWb.out.tr.rv.cap
    have k2 : (i : Int) < (L2.length : Int) := by omega
    have k3 : (L2.length : Int) ≤ (cap : Int) := by omega
    have ef : X2.cell? ⟨g, i * 13 + 3, none⟩ = some (.int .u32 n2.perm) := HWb.out.tr.rv.el i n2 hn1 3 _ rfl
    have zf : X2.frozen? ⟨g, i * 13 + 3, none⟩ = false := HWb.out.tr.free hil1 (by decide)
    have v1 : bits .and .u32 (s.mo : Int) 511 = ((s.mo &&& 511 : Nat) : Int) := u32_and_nat s.mo 511 hs.ok.mo (by decide)
    obtain ⟨q5, hq5⟩ : ∃ q, s.mo &&& 511 = q := ⟨_, rfl⟩
    rw [hq5] at v1
    have HQ5 := Lib.hid hq5
    clear hal hn1 hq5
    go_upto_region 18 with (fail)
    refine wp_region_then3 (k := 10) (S := fun w' => Hid (Mod (fun _ => False) X2 w')) _ _ rfl rfl rfl (by kernel_rfl) (by kernel_rfl) (Lib.hid (Mod.refl (fun _ => False) X2).drew) (fun hHeld => ?_)
    simp only [List.take_succ_cons, List.take_zero]
    refine hT 0 rfl (fun _ _ => by go_simp; all_goals with_reducible rfl) ?_
    try simp only [gA, gB, gC, Act.put, sA, sB, sC]
    refine hT 1 rfl (fun _ _ => by go_simp; all_goals with_reducible rfl) ?_
    try simp only [gA, gB, gC, Act.put, sA, sB, sC]
    refine hT 2 rfl (fun _ _ => by go_simp; all_goals with_reducible rfl) ?_
    try simp only [gA, gB, gC, Act.put, sA, sB, sC]
    refine hT 3 rfl (fun wH hSw => by have cH := keepN hSw.out c0; clear hSw; go_simp; all_goals with_reducible rfl) ?_
    try simp only [gA, gB, gC, Act.put, sA, sB, sC]
    refine hT 4 rfl (fun _ _ => by go_simp; all_goals with_reducible rfl) ?_
    try simp only [gA, gB, gC, Act.put, sA, sB, sC]
    refine hT 5 rfl (fun _ _ => by go_simp; all_goals with_reducible rfl) ?_
    try simp only [gA, gB, gC, Act.put, sA, sB, sC]
    refine hT 6 rfl (fun wH hSw => by have cH := keepN hSw.out c1; clear hSw; go_simp; all_goals with_reducible rfl) ?_
    try simp only [gA, gB, gC, Act.put, sA, sB, sC]
    refine hT 7 rfl (fun _ _ => by go_simp; all_goals with_reducible rfl) ?_
    try simp only [gA, gB, gC, Act.put, sA, sB, sC]
    refine hT 8 rfl (fun _ _ => by go_simp; all_goals with_reducible rfl) ?_
    try simp only [gA, gB, gC, Act.put, sA, sB, sC]
    refine hT 9 rfl (fun _ _ => by go_simp; all_goals with_reducible rfl) ?_
    try simp only [gA, gB, gC, Act.put, sA, sB, sC]
    refine wpAnyH_done (by kernel_rfl) ?_ _
    intro K hK
    go_simp
    refine hK _ _ ?_
    clear hK K
    have hdr := Mod.ofDrew (Mod.refl (fun _ => False) (X2.setCell ⟨g, i * 13 + 3, none⟩ (.int .u32 (q5 : Int))).drew)
    obtain ⟨h5, m5⟩ := HWb.out.tr.setU HP2.out (pF a) rfl 3 (.int .u32 (q5 : Int)) (by decide) (by unfold pF; rw [HAL.out, HQ5.out]; rfl)
    generalize (X2.setCell ⟨g, i * 13 + 3, none⟩ (.int .u32 (q5 : Int))).drew = X3 at hdr ⊢
    have HW5 := Lib.hid ((HWb.out.mod m5 h5).mod0 hdr)
    clear h5 m5 hdr hHeld c0 ef zf c1 c2 k2 k3
    go_wp2
    go_meet
    case rel => exact HW5
  case rest =>
  have HWc := hcut
  obtain ⟨n3, hp3, hgi3⟩ := wsp3 HP2.out a
  have HP3 := Lib.hid hp3
  have HQ3 : Hid (n3.gid = n.gid) := hgi3.trans HQ2.out.2
  obtain ⟨L3, hL3⟩ : ∃ L3, updN L2 p (pF a) = L3 := ⟨_, rfl⟩
  have HWc : Hid (WsW w wc F b g cap { T with L := L3 } vks S I U n s) := by show WsW _ _ _ _ _ _ _ _ _ _ _ _ _; rw [← hL3]; exact HWc.out
  have HP3 : Hid (WsP { T with L := L3 } p i n3) := by show WsP _ _ _ _; rw [← hL3]; exact HP3.out
  have HL3 := Lib.hid hL3
  clear hcut hp3 hgi3 hL3 HWb HP2 HQ2 c1 c2 HEM z1
  generalize wc = X3 at *
  obtain ⟨eg, heg⟩ : ∃ x, decide (s.g.size = 0) = x := ⟨_, rfl⟩
  have z1 : s.g.toList.isEmpty = eg := by rw [empty_beq, ← heg]
  have HEG := Lib.hid heg
  clear heg
  have c1 : X3.cell? ⟨S, 11, none⟩ = some (.string s.g) := (cell_of HWc.out.hs 11).trans rfl
  go_upto_if 125 with (fail)
  go_cut [134] from 123 to 133 (fun _ wx => Hid (WsW w wx F b g cap { T with L := updN L3 p (gF a) } vks S I U n s))
  case first =>
    cases eg with
    | true =>
      have e1 : updN L3 p (gF a) = L3 := upd_keep HP3.out (by
        unfold gF
        rw [← HA.out]
        show ({ n3 with gid := orS s.g n.gid } : Nd) = n3
        unfold orS
        rw [if_pos (of_decide_eq_true HEG.out), ← HQ3.out])
      have HW9 : Hid (WsW w X3 F b g cap { T with L := updN L3 p (gF a) } vks S I U n s) := by show WsW _ _ _ _ _ _ _ _ _ _ _ _ _; rw [e1]; exact HWc.out
      clear e1
      go_wp2
      go_meet
      case rel => exact HW9
    | false =>
    have hal : a.g = s.g := by
      rw [← HA.out]
      show orS s.g n.gid = _
      unfold orS
      rw [if_neg (of_decide_eq_false HEG.out)]
    have HAL := Lib.hid hal
    have hn1 := HP3.out.at_
    have hil1 : i < L3.length := (List.getElem?_eq_some_iff.1 hn1).1
    have c0 : X3.cell? ⟨b, 0, none⟩ = some (.slice (some ⟨g, 0, none⟩) L3.length cap) := HWc.out.tr.rv.c0
    have hc1 : L3.length ≤ cap := HWc.out.tr.rv.cap
    have k2 : (i : Int) < (L3.length : Int) := by omega
    have k3 : (L3.length : Int) ≤ (cap : Int) := by omega
    have ef : X3.cell? ⟨g, i * 13 + 5, none⟩ = some (.string n3.gid) := HWc.out.tr.rv.el i n3 hn1 5 _ rfl
    have zf : X3.frozen? ⟨g, i * 13 + 5, none⟩ = false := HWc.out.tr.free hil1 (by decide)
    clear hal hn1
    go_upto_region 20 with (fail)
    refine wp_region_then3 (k := 9) (S := fun w' => Hid (Mod (fun _ => False) X3 w')) _ _ rfl rfl rfl (by kernel_rfl) (by kernel_rfl) (Lib.hid (Mod.refl (fun _ => False) X3).drew) (fun hHeld => ?_)
    simp only [List.take_succ_cons, List.take_zero]
    refine hT 0 rfl (fun _ _ => by go_simp; all_goals with_reducible rfl) ?_
    try simp only [gA, gB, gC, Act.put, sA, sB, sC]
    refine hT 1 rfl (fun _ _ => by go_simp; all_goals with_reducible rfl) ?_
    try simp only [gA, gB, gC, Act.put, sA, sB, sC]
    refine hT 2 rfl (fun _ _ => by go_simp; all_goals with_reducible rfl) ?_
    try simp only [gA, gB, gC, Act.put, sA, sB, sC]
    refine hT 3 rfl (fun wH hSw => by have cH := keepN hSw.out c0; clear hSw; go_simp; all_goals with_reducible rfl) ?_
    try simp only [gA, gB, gC, Act.put, sA, sB, sC]
    refine hT 4 rfl (fun _ _ => by go_simp; all_goals with_reducible rfl) ?_
    try simp only [gA, gB, gC, Act.put, sA, sB, sC]
    refine hT 5 rfl (fun _ _ => by go_simp; all_goals with_reducible rfl) ?_
    try simp only [gA, gB, gC, Act.put, sA, sB, sC]
    refine hT 6 rfl (fun wH hSw => by have cH := keepN hSw.out c1; clear hSw; go_simp; all_goals with_reducible rfl) ?_
    try simp only [gA, gB, gC, Act.put, sA, sB, sC]
    refine hT 7 rfl (fun _ _ => by go_simp; all_goals with_reducible rfl) ?_
    try simp only [gA, gB, gC, Act.put, sA, sB, sC]
    refine hT 8 rfl (fun _ _ => by go_simp; all_goals with_reducible rfl) ?_
    try simp only [gA, gB, gC, Act.put, sA, sB, sC]
    refine wpAnyH_done (by kernel_rfl) ?_ _
    intro K hK
    go_simp
    refine hK _ _ ?_
    clear hK K
    have hdr := Mod.ofDrew (Mod.refl (fun _ => False) (X3.setCell ⟨g, i * 13 + 5, none⟩ (.string s.g)).drew)
    obtain ⟨h5, m5⟩ := HWc.out.tr.setU HP3.out (gF a) rfl 5 (.string s.g) (by decide) (by unfold gF; rw [HAL.out]; rfl)
    generalize (X3.setCell ⟨g, i * 13 + 5, none⟩ (.string s.g)).drew = X4 at hdr ⊢
    have HW5 := Lib.hid ((HWc.out.mod m5 h5).mod0 hdr)
    clear h5 m5 hdr hHeld c0 ef zf c1 k2 k3
    go_wp2
    go_meet
    case rel => exact HW5
  case rest =>
  have HWd := hcut
  have hag : a.g.size ≤ 65536 := by
    rw [← HA.out]; show (orS s.g n.gid).size ≤ _
    unfold orS; split
    · exact HNO.out.gid
    · exact hs.g
  obtain ⟨n4, hp4⟩ := wsp4 HP3.out a hag
  obtain ⟨L4, hL4⟩ : ∃ L4, updN L3 p (gF a) = L4 := ⟨_, rfl⟩
  have HWd : Hid (WsW w wc F b g cap { T with L := L4 } vks S I U n s) := by show WsW _ _ _ _ _ _ _ _ _ _ _ _ _; rw [← hL4]; exact HWd.out
  have HP4 : Hid (WsP { T with L := L4 } p i n4) := by show WsP _ _ _ _; rw [← hL4]; exact hp4
  have HL4 : Hid (L4 = updN L2 p (wf4 a)) := by
    show _ = _
    rw [← hL4, ← HL3.out, upd_two (f := pF a) (fun _ => rfl)]
    rfl
  clear hcut hp4 hL4 HWc HP3 HQ3 c1 HEG z1 hag HL3
  generalize wc = X4 at *
  obtain ⟨bt, hbt⟩ : ∃ x, decide (s.mt ≠ 4294967295) = x := ⟨_, rfl⟩
  have hfin : ({ T with L := wL5 bt s p L4 } : Tr) = wstatT' T n s who now := by
    have h1 := wstat_law HWF.out (n := n) (by rw [HP0.out.path]; exact HP0.out.lk) s a who now HA.out bn bl bt BN.out.symm BL.out.symm hbt.symm HV2.out.2
    rw [HP0.out.path, HL1.out, HL2.out, ← HL4.out] at h1
    have h2 : (wstatT' T n s who now).last = T.last := rfl
    cases hx : wstatT' T n s who now with
    | mk Lx lx =>
      rw [hx] at h1 h2
      simp only at h1 h2
      rw [h1, h2]
  have HF := Lib.hid hfin
  have z1 : ((s.mt : Int) != 4294967295) = bt := by rw [← hbt, Bool.eq_iff_iff]; simp; omega
  have HBT := Lib.hid hbt
  clear hbt hfin
  have c1 : X4.cell? ⟨S, 7, none⟩ = some (.int .u32 s.mt) := (cell_of HWd.out.hs 7).trans rfl
  have c2 : X4.cell? ⟨U, 7, none⟩ = some (.int .u32 4294967295) := (cell_of HWd.out.hu 7).trans rfl
  cases bt with
  | false =>
    have HX : Hid (RWst F b g cap vks (wstatT T p s who now) w (.returned (.int .i64 0)) X4) := by
      show RWst _ _ _ _ _ _ _ _ _
      rw [HV2.out.1, ← HF.out]
      exact ⟨rfl, HWd.out.tr, HWd.out.m⟩
    clear HF HV2
    go_wp2
    go_ret
    exact HX.out
  | true =>
    have hn1 := HP4.out.at_
    have hil1 : i < L4.length := (List.getElem?_eq_some_iff.1 hn1).1
    have c0 : X4.cell? ⟨b, 0, none⟩ = some (.slice (some ⟨g, 0, none⟩) L4.length cap) := HWd.out.tr.rv.c0
    have hc1 : L4.length ≤ cap := HWd.out.tr.rv.cap
    have k2 : (i : Int) < (L4.length : Int) := by omega
    have k3 : (L4.length : Int) ≤ (cap : Int) := by omega
    have ef : X4.cell? ⟨g, i * 13 + 8, none⟩ = some (.int .u32 n4.mtime) := HWd.out.tr.rv.el i n4 hn1 8 _ rfl
    have zf : X4.frozen? ⟨g, i * 13 + 8, none⟩ = false := HWd.out.tr.free hil1 (by decide)
    clear hn1
    go_upto_region 22 with (fail)
    refine wp_region_then3 (k := 9) (S := fun w' => Hid (Mod (fun _ => False) X4 w')) _ _ rfl rfl rfl (by kernel_rfl) (by kernel_rfl) (Lib.hid (Mod.refl (fun _ => False) X4).drew) (fun hHeld => ?_)
    simp only [List.take_succ_cons, List.take_zero]
    refine hT 0 rfl (fun _ _ => by go_simp; all_goals with_reducible rfl) ?_
    try simp only [gA, gB, gC, Act.put, sA, sB, sC]
    refine hT 1 rfl (fun _ _ => by go_simp; all_goals with_reducible rfl) ?_
    try simp only [gA, gB, gC, Act.put, sA, sB, sC]
    refine hT 2 rfl (fun _ _ => by go_simp; all_goals with_reducible rfl) ?_
    try simp only [gA, gB, gC, Act.put, sA, sB, sC]
    refine hT 3 rfl (fun wH hSw => by have cH := keepN hSw.out c0; clear hSw; go_simp; all_goals with_reducible rfl) ?_
    try simp only [gA, gB, gC, Act.put, sA, sB, sC]
    refine hT 4 rfl (fun _ _ => by go_simp; all_goals with_reducible rfl) ?_
    try simp only [gA, gB, gC, Act.put, sA, sB, sC]
    refine hT 5 rfl (fun _ _ => by go_simp; all_goals with_reducible rfl) ?_
    try simp only [gA, gB, gC, Act.put, sA, sB, sC]
    refine hT 6 rfl (fun wH hSw => by have cH := keepN hSw.out c1; clear hSw; go_simp; all_goals with_reducible rfl) ?_
    try simp only [gA, gB, gC, Act.put, sA, sB, sC]
    refine hT 7 rfl (fun _ _ => by go_simp; all_goals with_reducible rfl) ?_
    try simp only [gA, gB, gC, Act.put, sA, sB, sC]
    refine hT 8 rfl (fun _ _ => by go_simp; all_goals with_reducible rfl) ?_
    try simp only [gA, gB, gC, Act.put, sA, sB, sC]
    refine wpAnyH_done (by kernel_rfl) ?_ _
    intro K hK
    go_simp
    refine hK _ _ ?_
    clear hK K
    have hdr := Mod.ofDrew (Mod.refl (fun _ => False) (X4.setCell ⟨g, i * 13 + 8, none⟩ (.int .u32 (s.mt : Int))).drew)
    obtain ⟨h5, m5⟩ := HWd.out.tr.setU HP4.out (wf5 s) rfl 8 (.int .u32 (s.mt : Int)) (by decide) rfl
    generalize (X4.setCell ⟨g, i * 13 + 8, none⟩ (.int .u32 (s.mt : Int))).drew = X5 at hdr ⊢
    have hW5 := (HWd.out.mod m5 h5).mod0 hdr
    have HX : Hid (RWst F b g cap vks (wstatT T p s who now) w (.returned (.int .i64 0)) X5) := by
      show RWst _ _ _ _ _ _ _ _ _
      rw [HV2.out.1, ← HF.out]
      exact ⟨rfl, hW5.tr, hW5.m⟩
    clear h5 m5 hdr hHeld c0 ef zf c1 c2 k2 k3 HF HV2 hW5
    go_wp2
    go_ret
    exact HX.out
end Go.Proofs.YtkcnbbjmkkaolaaGreatDoor
namespace Go.Proofs.YtkcnbbjmkkaolaaGreatDoor
open Go.RowKit

theorem src_nd (n : Nd) (vk : Value) (h1 : ∀ u ∈ ndC (n, vk), u.oneCell' = true) (wr : World) : Src Tryz.prog 13 84 (.slice (some ⟨wr.heap.size, 0, none⟩) 1 1) 1 (ndC (n, vk)) (wr.alloc (.cells (ndC (n, vk)).toArray 83)) :=
  Src.ofSlice _ Tryz.underlying84 _ _ _ _ rfl (fun j u hj => by rw [Addr.add_mid, Nat.zero_add, cell_of (new_at wr _), List.getElem?_toArray]; exact hj) h1
theorem bs_foldK (n : Nd) (vk : Value) : List.foldl (fun (cs : Array Value) (x : Value × Nat) => cs.setIfInBounds x.snd x.fst) #[.int .u64 0, .bool false, .int .u32 0, .int .u32 0, .string { data := #[] }, .string { data := #[] }, .string { data := #[] }, .int .u32 0, .int .u32 0, .int .u64 0, .string { data := #[] }, .string { data := #[] }, .slice none 0 0] (ndC (n, vk)).zipIdx = (ndC (n, vk)).toArray := by kernel_rfl
theorem rowP_snoc {L : List Nd} {vks : Nat → Value} {nd : Nd} {v : Value} : rowP (L ++ [nd]) (setV L.length v vks) = rowP L vks ++ [(nd, v)] := by
  apply List.ext_getElem?
  intro j
  unfold rowP
  rw [List.getElem?_mapIdx]
  by_cases hj : j < L.length
  · rw [List.getElem?_append_left hj, List.getElem?_append_left (by rw [List.length_mapIdx]; exact hj), List.getElem?_mapIdx]
    unfold setV
    rw [if_neg (by omega)]
  · by_cases he : j = L.length
    · subst he
      rw [List.getElem?_append_right (Nat.le_refl _), List.getElem?_append_right (by rw [List.length_mapIdx]; exact Nat.le_refl _), List.length_mapIdx, Nat.sub_self]
      unfold setV
      rw [if_pos rfl]
      rfl
    · rw [List.getElem?_eq_none (by rw [List.length_append, List.length_singleton]; omega), List.getElem?_eq_none (by rw [List.length_append, List.length_mapIdx, List.length_singleton]; omega)]
      rfl
/-- the copy, so far -/
structure CpAt (w wr : World) (T : Tr) (j : Nat) (vL : Value) (vks : Nat → Value) : Prop where
  obj : wr.heap[w.heap.size]? = some (.cells #[vL, .int .u64 T.last] 86 (0, 0))
  row : OwnA wr (w.heap.size + 1) 13 vL j (flatR ndC (rowP (T.L.take j) vks))
  kid : ∀ i n, i < j → T.L[i]? = some n → OwnA wr (w.heap.size + 1) 1 (vks i) n.kids.length (kidsV n.kids)
  fk : ∀ i, i < j → ∀ k, some k = (vks i).ownBlock → some k ≠ vL.ownBlock
  dj : ∀ i i', i < j → i' < j → i ≠ i' → ∀ k, some k = (vks i).ownBlock → some k ≠ (vks i').ownBlock
  m : Mod (fun _ => False) w wr
theorem CpAt.step {w wr V1 w7 w9 w10 : World} {T : Tr} {j : Nat} {vL v1 v' : Value} {vks : Nat → Value} {n : Nd} {sz : Nat} (h : CpAt w wr T j vL vks) (hn : T.L[j]? = some n) (m1 : Mod (fun _ => False) wr V1) (hN : wr.heap.size < V1.heap.size) (m2 : Mod (fun _ => False) V1 w7) (ho1 : OwnA w7 (w.heap.size + 1) 1 v1 n.kids.length (kidsV n.kids))
    (hb1 : v1.ownBlock = none ∨ v1.ownBlock = some V1.heap.size) (m3 : Mod (fun k => k = wr.heap.size ∨ some k = vL.ownBlock) w7 w9) (ho : OwnA w9 (w.heap.size + 1) 13 v' (j + 1) (flatR ndC (rowP (T.L.take j) vks) ++ ndC (n, v1))) (hb : v'.ownBlock = vL.ownBlock ∨ v'.ownBlock = some sz) (hsz : w7.heap.size ≤ sz)
    (h10 : w9.setCell ⟨w.heap.size, 0, none⟩ v' = w10) : CpAt w w10 T (j + 1) v' (setV j v1 vks) := by
  have hm4 : Mod (· = w.heap.size) w9 w10 := by rw [← h10]; exact Mod.set1 _ _ _ _
  have hjl : j < T.L.length := (List.getElem?_eq_some_iff.1 hn).1
  have hC := lt_of h.obj
  have h7 := m2.size
  have hlt : (T.L.take j).length = j := by rw [List.length_take]; omega
  have htk : T.L.take (j + 1) = T.L.take j ++ [n] := by rw [List.take_add_one, hn]; rfl
  have hrow : flatR ndC (rowP (T.L.take j) vks) ++ ndC (n, v1) = flatR ndC (rowP (T.L.take (j + 1)) (setV j v1 vks)) := by
    have := rowP_snoc (L := T.L.take j) (vks := vks) (nd := n) (v := v1)
    rw [hlt] at this
    rw [htk, this, flatR_append]
    simp [flatR]
  have hvl : ∀ k, some k = vL.ownBlock → w.heap.size + 1 ≤ k ∧ k < wr.heap.size := fun k hk => h.row.lt k hk
  have hsj : setV j v1 vks j = v1 := by unfold setV; rw [if_pos rfl]
  have hsi : ∀ i, i ≠ j → setV j v1 vks i = vks i := fun i hi => by unfold setV; rw [if_neg hi]
  have h1b : ∀ k, some k = v1.ownBlock → k = V1.heap.size ∧ k < w7.heap.size ∧ w.heap.size + 1 ≤ k := fun k hk => by
    obtain ⟨a1, a2⟩ := ho1.lt k hk
    rcases hb1 with e | e
    · rw [e] at hk; cases hk
    · rw [e] at hk; injection hk with hk; exact ⟨hk, a2, a1⟩
  have mA : Mod (fun k => k = wr.heap.size ∨ some k = vL.ownBlock) wr w9 := ((m1.trans m2).mono fun _ _ x => x.elim).trans m3
  have mB : Mod (fun k => (k = wr.heap.size ∨ some k = vL.ownBlock) ∨ k = w.heap.size) wr w10 := (mA.mono fun _ _ x => .inl x).trans (hm4.mono fun _ _ x => .inr x)
  have hk : ∀ i, i < j → ∀ n', T.L[i]? = some n' → ∀ k, some k = (vks i).ownBlock → w.heap.size + 1 ≤ k ∧ k < wr.heap.size := fun i hi n' hn' k hk => (h.kid i n' hi hn').lt k hk
  have hk' : ∀ i, i < j → ∀ k, some k = (vks i).ownBlock → w.heap.size + 1 ≤ k ∧ k < wr.heap.size := fun i hi k hkk => hk i hi _ (List.getElem?_eq_getElem (by omega)) k hkk
  refine ⟨?_, ?_, ?_, ?_, ?_, ?_⟩
  · rw [← h10]
    refine heap_set (cs := #[vL, .int .u64 T.last]) ?_ 0 v'
    refine ((mA.block _ hC fun e => ?_)).trans h.obj
    rcases e with e | e
    · omega
    · have := hvl _ e; omega
  · rw [← hrow]
    exact ho.modB hm4 fun k hk e => by have := ho.lt k hk; omega
  · intro i n' hi hn'
    by_cases e : i = j
    · subst e
      rw [hn] at hn'
      injection hn' with hn'
      subst hn'
      rw [hsj]
      refine (ho1.modB m3 fun k hk e => ?_).modB hm4 fun k hk e => ?_
      · have := h1b k hk
        rcases e with e | e
        · omega
        · have := hvl k e; have := m1.size; omega
      · have := h1b k hk; omega
    · rw [hsi i e]
      refine (h.kid i n' (by omega) hn').modB mB fun k hk e => ?_
      have h2 := hk' i (by omega) k hk
      rcases e with (e | e) | e
      · omega
      · exact h.fk i (by omega) k hk e
      · omega
  · intro i hi k hk
    by_cases e : i = j
    · rw [e, hsj] at hk
      have h2 := h1b k hk
      rcases hb with x | x
      · rw [x]; intro y; have := hvl k y; have := m1.size; omega
      · rw [x]; intro y; injection y with y; omega
    · rw [hsi i e] at hk
      have h2 := hk' i (by omega) k hk
      rcases hb with x | x
      · rw [x]; exact h.fk i (by omega) k hk
      · rw [x]; intro y; injection y with y; have := m1.size; omega
  · intro i i' hi hi' hii k hk
    by_cases e : i = j
    · rw [e, hsj] at hk
      rw [hsi i' (by omega)]
      intro y
      have h2 := hk' i' (by omega) k y
      have := h1b k hk
      have := m1.size
      omega
    · rw [hsi i e] at hk
      by_cases e' : i' = j
      · rw [e', hsj]
        intro y
        have h2 := hk' i (by omega) k hk
        have := h1b k y
        have := m1.size
        omega
      · rw [hsi i' e']
        exact h.dj i i' (by omega) (by omega) hii k hk
  · refine h.m.trans' mB fun k hk e => ?_
    have := h.m.size
    rcases e with (e | e) | e
    · omega
    · have := hvl k e; omega
    · omega
def RCp (T : Tr) (w : World) (e : Ending) (w' : World) : Prop := ∃ b F g cap vks, e = .returned (.pointer (some ⟨b, 0, none⟩)) ∧ RTreeP w' F b T g cap vks ∧ Mod (fun _ => False) w w' ∧ ∀ k, F k → w.heap.size ≤ k
theorem CpAt.done {w wr : World} {T : Tr} {vL : Value} {vks : Nat → Value} (h : CpAt w wr T T.L.length vL vks) (hwf : WF T) : RCp T w (.returned (.pointer (some ⟨w.heap.size, 0, none⟩))) wr := by
  obtain ⟨r, hr, _⟩ := hwf.root
  obtain ⟨i0, _, _, hi0⟩ := look_get hr
  have hrow := h.row
  have hx : ∃ x, T.L.length = x + 1 := ⟨T.L.length - 1, by omega⟩
  obtain ⟨x, hx⟩ := hx
  rw [hx] at hrow
  obtain ⟨g, cap, hv⟩ := OwnA.succ hrow
  rw [← hx] at hv
  subst hv
  have hg := h.row.lt g rfl
  refine ⟨w.heap.size, fun k => w.heap.size ≤ k ∧ k < wr.heap.size, g, cap, vks, rfl, ⟨h.obj, ?_, fun i n hi => (h.kid i n (List.getElem?_eq_some_iff.1 hi).1 hi).mono (Nat.zero_le _), ⟨Nat.le_refl _, lt_of h.obj⟩, ⟨by omega, hg.2⟩, by omega, fun i hi k hk => ?_, h.dj, fun k hk => hk.2⟩, h.m, fun k hk => hk.1⟩
  · have h2 := h.row.mono (Nat.zero_le _)
    rw [List.take_length] at h2
    exact h2
  · obtain ⟨h1, h2⟩ := (h.kid i _ hi (List.getElem?_eq_getElem hi)).lt k hk
    refine ⟨⟨by omega, h2⟩, by omega, fun e => h.fk i hi k hk (by rw [e]; rfl)⟩
set_option maxHeartbeats 8000000 in
set_option maxRecDepth 100000 in
theorem rCopy_any (b g cap : Nat) (T : Tr) (vks : Nat → Value) (w : World) (h : RV w b g cap T vks) (hwf : WF T) :
    Calls Tryz.prog 25 #[.pointer (some ⟨b, 0, none⟩)] w (RCp T w) := by
  have hl := hwf.len
  have c0w := h.c0
  have c1w := h.c1
  have hcap := h.cap
  obtain ⟨W, hW⟩ : ∃ W, w.alloc (.cells #[.slice none 0 0, .int .u64 T.last] 86) = W := ⟨_, rfl⟩
  have hC0 : CpAt w W T 0 (.slice none 0 0) vks := by
    subst hW
    exact ⟨new_at _ _, OwnA.nil _ _ _, fun i n hi => by omega, fun i hi => by omega, fun i i' hi => by omega, (Mod.refl _ w).alloc _⟩
  have HC0 := Lib.hid hC0
  have H := Lib.hid h
  have HWF := Lib.hid hwf
  clear h hwf hC0
  go_enter Tryz.func25, Tryz.ntmps25
  go_wp2
  clear hW
  go_loopw [4, 5, 6] (fun i _ _ wr => ∃ (j : Nat) (vL : Value) (vq : Nat → Value), j ≤ T.L.length ∧ i = .int .i64 j ∧ Hid (CpAt w wr T j vL vq)) (fun i _ _ _ => T.L.length - (intOf i).toNat)
  case atStart => exact ⟨0, _, _, Nat.zero_le _, rfl, HC0⟩
  case round =>
    obtain ⟨j, vL, vq, hj, rfl, HC⟩ := hrel
    have c0 := keepN HC.out.m c0w
    by_cases hlt : j < T.L.length
    · have t1 : decide ((j : Int) < (T.L.length : Int)) = true := by simp; omega
      have t1' : decide (j < T.L.length) = true := by simp; omega
      obtain ⟨n, hn⟩ : ∃ n, T.L[j]? = some n := ⟨_, List.getElem?_eq_getElem hlt⟩
      have hno := HWF.out.ok n (List.mem_of_getElem? hn)
      have hRr := H.out.mod HC.out.m
      have hre : wr.rangeAt g (j * 13) (ndC (n, vks j)) := hRr.elem hn
      have hone : ∀ u ∈ ndC (n, vks j), u.oneCell' = true := nd_one (hRr.kid j n hn)
      have hln := ndC_len (n, vks j)
      have i1 : (0 : Int) ≤ (j : Int) := by omega
      have i2 : (j : Int) < (T.L.length : Int) := by omega
      have i3 : (T.L.length : Int) ≤ (cap : Int) := by omega
      obtain ⟨ka, kc, hvk, hkc, _⟩ := kids_form (hRr.kid j n hn)
      have hkl := hno.kl
      have HR := Lib.hid hRr
      have HN := Lib.hid hn
      have HVK := Lib.hid hvk
      clear hRr hno hn hvk
      go_upto_region 7 with (first | refine wpList_load_mid rfl 83 (.tmp 27) rfl g (j * 13) rfl (ndC (n, vks j)) _ hre Tryz.underlying83 rfl (by kernel_rfl) ?_ | (refine wpl_store_row rfl 83 (.tmp 5) (.tmp 28) rfl rfl wr.heap.size (ndC (n, vks j)) rfl rfl 83 _ (new_at _ _) rfl hone (by kernel_rfl) ?_; intro V1 hd1 md1))
      have m1 : Mod (fun _ => False) wr V1 := ((Mod.refl (fun _ => False) wr).alloc _).trans' md1 fun k hk e => by omega
      have HNs : Hid (wr.heap.size < V1.heap.size) := lt_of hd1
      obtain ⟨N, hNb⟩ : ∃ N, wr.heap.size = N := ⟨_, rfl⟩
      rw [hNb] at hd1 HNs
      simp only [hNb]
      have HD1 : Hid (V1.heap[N]? = some (ndO n (vks j))) := hd1
      have c12 : V1.cell? ⟨N, 12, none⟩ = some (.slice ka n.kids.length kc) := by rw [← HVK.out]; exact (cell_of hd1 12).trans rfl
      have S1 : Hid (Src Tryz.prog 1 76 (.slice ka n.kids.length kc) n.kids.length (kidsV n.kids) V1) := by
        have h2 := (HR.out.kid j n HN.out).mod m1 fun _ _ _ x => x
        rw [HVK.out] at h2
        exact src_slAt Tryz.underlying76 h2 (List.length_map ..) (fun u hu => by obtain ⟨x, _, rfl⟩ := List.mem_map.1 hu; rfl)
      have A1 : Hid ((0 + n.kids.length) * 8 ≤ 140737488355328) := (show _ ≤ _ by omega)
      have A2 : Hid (0 + n.kids.length ≤ 9223372036854775807) := (show _ ≤ _ by omega)
      have A3 : Hid (w.heap.size + 1 ≤ V1.heap.size) := by have h1 := lt_of HC.out.obj; have := m1.size; show _ ≤ _; omega
      have M1 := Lib.hid m1
      have HNB := Lib.hid hNb
      clear hre hone md1 m1 hd1 hNb c0
      go_upto_region 8 with (refine wpl_appendB rfl (.tmp 29) (.tmp 31) _ _ rfl (w.heap.size + 1) 33 (.int .u64 0) 1 8 Tryz.underlying76 info_u64 rfl (by decide) (.slice none 0 0) 0 [] rfl (OwnA.nil _ _ _) (.slice ka n.kids.length kc) n.kids.length (kidsV n.kids) rfl S1.out A1.out A2.out A3.out ?_; intro v1 w7 ho1 hg1 hb1)
      rw [List.nil_append, Nat.zero_add] at ho1
      have m2 : Mod (fun _ => False) V1 w7 := hg1.mono fun k _ e => by simp [Value.ownBlock] at e
      have hd7 := (m2.block _ (lt_of HD1.out) (fun x => x)).trans HD1.out
      have c12 : w7.cell? ⟨N, 12, none⟩ = some (vks j) := (cell_of hd7 12).trans rfl
      have z12 : w7.frozen? ⟨N, 12, none⟩ = false := free_of hd7 12
      obtain ⟨ya, yc, hy⟩ : ∃ a c, v1 = .slice a n.kids.length c := by
        rcases ho1.2 with ⟨e, e0⟩ | ⟨g1, c1, e, _⟩
        · exact ⟨none, 0, by rw [e, e0]⟩
        · exact ⟨_, c1, e⟩
      have HO1 := Lib.hid ho1
      have HB1 : Hid (v1.ownBlock = none ∨ v1.ownBlock = some V1.heap.size) := hb1
      have M2 := Lib.hid m2
      obtain ⟨W8, hW8⟩ : ∃ W8, w7.setCell ⟨N, 12, none⟩ v1 = W8 := ⟨_, rfl⟩
      have HN8 : Hid (W8.heap[N]? = some (ndO n v1)) := by rw [← hW8]; exact heap_set hd7 12 v1
      have M3 : Hid (Mod (· = N) w7 W8) := by rw [← hW8]; exact Mod.set1 _ _ _ _
      have HC7 : Hid (W8.heap[w.heap.size]? = some (.cells #[vL, .int .u64 T.last] 86 (0, 0))) := by
        have h1 := ((M1.out.trans m2).block _ (lt_of HC.out.obj) (fun x => x)).trans HC.out.obj
        exact (M3.out.block _ (lt_of h1) (fun e => by have h2 := lt_of HC.out.obj; have := HNB.out; omega)).trans h1
      have HR8 : Hid (OwnA W8 (w.heap.size + 1) 13 vL j (flatR ndC (rowP (T.L.take j) vq))) := by
        refine ((HC.out.row.mod (M1.out.trans m2) fun _ _ x => x).modB M3.out fun k hk e => ?_)
        have := HC.out.row.lt k hk
        have := HNB.out
        omega
      have HY := Lib.hid hy
      rw [hy] at hW8 ⊢
      clear ho1 hg1 hb1 m2 hd7 hy
      go_upto_region 9 with (fail)
      clear c12 z12 hW8
      rw [← HY.out]
      have hone1 : ∀ u ∈ ndC (n, v1), u.oneCell' = true := nd_one HO1.out.slAt
      have hob := HC7.out
      have hCN : w.heap.size ≠ N := by have h2 := lt_of HC.out.obj; have := HNB.out; omega
      have hvN : ∀ k, some k = vL.ownBlock → k ≠ N ∧ k ≠ w.heap.size ∧ k < W8.heap.size := fun k hk => by
        have h1 := HC.out.row.lt k hk
        have h2 := HNB.out
        have := HR8.out.lt k hk
        exact ⟨by omega, by omega, this.2⟩
      have cA : ∀ U, Mod (fun k => some k = vL.ownBlock) W8 U → U.cell? ⟨w.heap.size, 0, none⟩ = some vL := fun U hU => (World.cell?_of_block (a := ⟨w.heap.size, 0, none⟩) (hU.block _ (lt_of hob) (fun e => (hvN _ e).2.1 rfl))).trans ((cell_of hob 0).trans rfl)
      have hRow : ∀ U, Mod (fun k => some k = vL.ownBlock) W8 U → U.rangeAt N 0 (ndC (n, v1)) := fun U hU => nd_rng ((hU.block N (lt_of HN8.out) (fun e => (hvN _ e).1 rfl)).trans HN8.out)
      have hln1 := ndC_len (n, v1)
      have HVN := Lib.hid hvN
      clear hob hvN
      refine wp_region_then3 (k := 10) (S := fun w' => Hid (Mod (fun k => some k = vL.ownBlock) W8 w')) _ _ rfl rfl rfl (by kernel_rfl) (by kernel_rfl) (Lib.hid (Mod.refl (fun k => some k = vL.ownBlock) W8).drew) (fun hHeld => ?_)
      simp only [List.take_succ_cons, List.take_zero]
      refine hT 0 rfl (fun _ _ => by go_simp; all_goals with_reducible rfl) ?_
      try simp only [gA, gB, gC, Act.put, sA, sB, sC]
      refine hT 1 rfl (fun _ _ => by go_simp; all_goals with_reducible rfl) ?_
      try simp only [gA, gB, gC, Act.put, sA, sB, sC]
      refine hT 2 rfl (fun _ _ => by go_simp; all_goals with_reducible rfl) ?_
      try simp only [gA, gB, gC, Act.put, sA, sB, sC]
      refine hT 3 rfl (fun _ _ => by go_simp; all_goals with_reducible rfl) ?_
      try simp only [gA, gB, gC, Act.put, sA, sB, sC]
      refine hT 4 rfl (fun wH hSw => by have cH := cA wH hSw.out; clear hSw; go_simp; all_goals with_reducible rfl) ?_
      try simp only [gA, gB, gC, Act.put, sA, sB, sC]
      refine hTy 5 rfl (by kernel_rfl) (fun _ _ _ h => h) (by assumption) (yieldsIf_load_mid (by rfl) 83 (.tmp 5) rfl N 0 rfl (ndC (n, v1)) _ (fun wH hSw => hRow wH hSw.out) Tryz.underlying83 rfl (by kernel_rfl)) ?_
      try simp only [gA, gB, gC, Act.put, sA, sB, sC]
      have hb2 := bs_foldK n v1
      have hb1 : (ndC (n, v1)).length = 13 := rfl
      refine hR1 6 rfl fun K hK => ?_
      go_simp
      clear hb1 hb2
      have mB : Mod (fun k => some k = vL.ownBlock) W8 (W8.alloc (.cells (ndC (n, v1)).toArray 83)).drew := hHeld.out.alloc (.cells (ndC (n, v1)).toArray 83)
      have hLB : OwnA (W8.alloc (.cells (ndC (n, v1)).toArray 83)).drew (w.heap.size + 1) 13 vL j (flatR ndC (rowP (T.L.take j) vq)) := (HR8.out.mod (Mod.ofDrew (Mod.refl (fun _ => False) W8.drew)) (fun _ _ x => x)).mod ((Mod.refl (fun _ => False) W8.drew).alloc (.cells (ndC (n, v1)).toArray 83)) (fun _ _ x => x)
      have A2 : Hid (Src Tryz.prog 13 84 (.slice (some ⟨W8.heap.size, 0, none⟩) 1 1) 1 (ndC (n, v1)) (W8.alloc (.cells (ndC (n, v1)).toArray 83)).drew) := src_nd n v1 hone1 W8.drew
      have A3 : Hid ((j + 1) * 144 ≤ 140737488355328) := (show _ ≤ _ by omega)
      have A4 : Hid (j + 1 ≤ 9223372036854775807) := (show _ ≤ _ by omega)
      have m4 : Mod (fun _ => False) W8 (W8.alloc (.cells (ndC (n, v1)).toArray 83)).drew := (Mod.refl (fun _ => False) W8).drew.alloc (.cells (ndC (n, v1)).toArray 83)
      generalize hwB : (W8.alloc (.cells (ndC (n, v1)).toArray 83)).drew = wB at *
      have HLB := Lib.hid hLB
      have M4 := Lib.hid m4
      have hbase : Hid (w.heap.size + 1 ≤ wB.heap.size) := by
        have := lt_of HC7.out
        have := m4.size
        show _ ≤ _; omega
      clear hLB hwB m4
      refine hK.out _ _ (Lib.hid (mB)) ?_; clear hK K hHeld; intro hHeld
      try simp only [gA, gB, gC, Act.put, sA, sB, sC]
      refine hR1 7 rfl fun K hK => ?_
      refine Eq.mpr (if_pos ?hwant) ?_
      case hwant => rfl
      refine op_append (.tmp 39) (.tmp 41) _ _ rfl (w.heap.size + 1) 83 (.agg #[.int .u64 0, .bool false, .int .u32 0, .int .u32 0, .string { data := #[] }, .string { data := #[] }, .string { data := #[] }, .int .u32 0, .int .u32 0, .int .u64 0, .string { data := #[] }, .string { data := #[] }, .slice none 0 0]) 13 144 Tryz.underlying84 info_nd rfl (by decide) vL _ _ rfl HLB.out _ _ _ rfl A2.out A3.out A4.out hbase.out ?_
      intro v' w9 hown' hgrow hblk
      obtain ⟨g9, cap9, hv9⟩ := OwnA.succ hown'
      subst hv9
      have m9 : Mod (fun k => some k = vL.ownBlock) W8 w9 := hHeld.out.trans hgrow
      have HO9 := Lib.hid hown'
      have HB9 : Hid ((Value.slice (some ⟨g9, 0, none⟩) (j + 1) cap9).ownBlock = vL.ownBlock ∨ (Value.slice (some ⟨g9, 0, none⟩) (j + 1) cap9).ownBlock = some wB.heap.size) := hblk
      have M9 := Lib.hid m9
      have hob : w9.heap[w.heap.size]? = some (.cells #[vL, .int .u64 T.last] 86 (0, 0)) := (m9.block _ (lt_of HC7.out) (fun e => (HVN.out _ e).2.1 rfl)).trans HC7.out
      have zb : w9.frozen? ⟨w.heap.size, 0, none⟩ = false := free_of hob 0
      have cb : w9.cell? ⟨w.heap.size, 0, none⟩ = some vL := (cell_of hob 0).trans rfl
      clear hown' hgrow hblk hob A2 A3 A4
      refine hK.out _ _ (Lib.hid (m9)) ?_; clear hK K hHeld; intro hHeld
      try simp only [gA, gB, gC, Act.put, sA, sB, sC]
      refine hT 8 rfl (fun _ _ => by go_simp; all_goals with_reducible rfl) ?_
      try simp only [gA, gB, gC, Act.put, sA, sB, sC]
      refine hT 9 rfl (fun _ _ => by go_simp; all_goals with_reducible rfl) ?_
      try simp only [gA, gB, gC, Act.put, sA, sB, sC]
      refine wpAnyH_done (by kernel_rfl) ?_ _
      intro K hK
      go_simp
      refine hK _ _ ?_
      clear hK K
      obtain ⟨W10, hW10⟩ : ∃ W10, w9.setCell ⟨w.heap.size, 0, none⟩ (.slice (some ⟨g9, 0, none⟩) (j + 1) cap9) = W10 := ⟨_, rfl⟩
      have HC10 : Hid (CpAt w W10 T (j + 1) (.slice (some ⟨g9, 0, none⟩) (j + 1) cap9) (setV j v1 vq)) := by
        refine CpAt.step HC.out HN.out M1.out (by have := HNs.out; have := HNB.out; omega) M2.out HO1.out HB1.out ?_ HO9.out HB9.out ?_ hW10
        · refine (M3.out.mono fun k _ e => .inl (by rw [HNB.out]; exact e)).trans (M9.out.mono fun k _ e => .inr e)
        · have := M3.out.size
          have := M4.out.size
          omega
      rw [hW10]
      clear hW10 zb cb hHeld hRow cA m9 mB hbase
      go_wp2
      go_roundw
      case rel => exact ⟨j + 1, _, setV j v1 vq, hlt, by go_num, HC10⟩
      case measure => simp [intOf]; omega
    · obtain rfl : j = T.L.length := by omega
      have t1 : decide ((T.L.length : Int) < (T.L.length : Int)) = false := by simp
      have t1' : decide (T.L.length < T.L.length) = false := by simp
      go_wp2
      go_ret
      exact HC.out.done HWF.out
end Go.Proofs.YtkcnbbjmkkaolaaGreatDoor
