/- The law of the trees: a step of a script, plain; the package's and the document's tree side by side.
   The law of the trees: which scripts are let go.
   Arguments that are steps of a script, and rows of steps. -/
import Derived.Test.YtkcnbbjmkkaolaaGreatDoorQG09
import Derived.Test.YtkcnbbjmkkaolaaGreatDoorQG11
import Derived.Test.YtkcnbbjmkkaolaaGreatDoorQG12
import Derived.Test.YtkcnbbjmkkaolaaGreatDoorQG08
import Derived.Test.YtkcnbbjmkkaolaaGreatDoorQG14
import Derived.Test.YtkcnbbjmkkaolaaGreatDoorQG00
set_option linter.unusedVariables false
set_option linter.unusedSimpArgs false
namespace Go.Proofs.YtkcnbbjmkkaolaaGreatDoor
open Go.RowKit

structure SpM where
  dof : Int
  path : Nat
  name : ByteArray
  who : ByteArray
  perm : Nat
  mode : Nat
  now : Nat
  off : Nat
  count : Nat
  data : ByteArray
  st : St
def SpM.cells (s : SpM) : List Value := [.int .i64 s.dof, .int .u64 s.path, .string s.name, .string s.who, .int .u32 s.perm, .int .u8 s.mode, .int .u32 s.now, .int .u64 s.off, .int .u32 s.count, .string s.data] ++ s.st.cells
theorem sp_len (s : SpM) : s.cells.length = 23 := rfl
theorem sp_one (s : SpM) : ∀ u ∈ s.cells, u.oneCell' = true := by
  intro u hu
  unfold SpM.cells at hu
  rcases List.mem_append.1 hu with h | h
  · simp only [List.mem_cons, List.not_mem_nil, or_false] at h
    rcases h with rfl | rfl | rfl | rfl | rfl | rfl | rfl | rfl | rfl | rfl <;> rfl
  · exact st_one s.st u h
structure SpM.Ok (s : SpM) : Prop where
  path : s.path < 18446744073709551616
  perm : s.perm < 4294967296
  mode : s.mode < 256
  now : s.now < 4294967296
  off : s.off < 18446744073709551616
  count : s.count < 4294967296
  st : s.st.Ok
/-- light -/
structure SpM.Lt (s : SpM) : Prop where
  name : s.name.size ≤ 4096
  who : s.who.size ≤ 4096
  n : s.st.n.size ≤ 4096
  u : s.st.u.size ≤ 4096
  g : s.st.g.size ≤ 4096
  m : s.st.m.size ≤ 4096
  data : s.data.size ≤ 131072
theorem SpM.bd {s : SpM} (h : s.Ok) (hl : s.Lt) : s.st.Bd := ⟨h.st, by have := hl.n; omega, by have := hl.u; omega, by have := hl.g; omega, by have := hl.m; omega⟩
def stepT (T : Tr) (s : SpM) : Tr × Int :=
  if s.dof = 0 then (T, (statT T s.path).2)
  else if s.dof = 1 then (T, (walkT T s.path s.name s.who).2)
  else if s.dof = 2 then ((openT T s.path s.mode s.who s.now).1, (openT T s.path s.mode s.who s.now).2.2)
  else if s.dof = 3 then ((createT T s.path s.name s.perm s.mode s.who s.now).1, (createT T s.path s.name s.perm s.mode s.who s.now).2.2)
  else if s.dof = 4 then (T, (readT T s.path s.off s.count).2)
  else if s.dof = 5 then (T, (listT T s.path).2)
  else if s.dof = 6 then ((writeT T s.path s.off s.data s.who s.now).1, (writeT T s.path s.off s.data s.who s.now).2.2)
  else if s.dof = 7 then removeT T s.path s.who s.now
  else wstatT T s.path s.st s.who s.now
theorem open_last {T : Tr} (p m : Nat) (who : ByteArray) (now : Nat) : (openT T p m who now).1.last = T.last := by
  unfold openT
  cases look T.L p with
  | none => rfl
  | some n =>
    show (Prod.fst (if _ then _ else _ : Tr × Qi × Int)).last = _
    split
    · rfl
    · split <;> rfl
theorem write_last {T : Tr} (p off : Nat) (d who : ByteArray) (now : Nat) : (writeT T p off d who now).1.last = T.last := by
  unfold writeT
  cases look T.L p with
  | none => rfl
  | some n =>
    show (Prod.fst (if _ then _ else _ : Tr × Nat × Int)).last = _
    split
    · rfl
    · split
      · rfl
      · split <;> rfl
theorem step_wf {T : Tr} (h : WF T) {s : SpM} (hs : s.Ok) (hl : s.Lt) (ht : T.last + 1 < 18446744073709551616) : WF (stepT T s).1 := by
  have hw : s.who.size ≤ 65536 := by have := hl.who; omega
  have hn : s.name.size ≤ 65536 := by have := hl.name; omega
  unfold stepT
  split
  · exact h
  split
  · exact h
  split
  · exact open_wf h _ _ hw hs.now
  split
  · exact create_wf h _ _ _ hn hw hs.now ht
  split
  · exact h
  split
  · exact h
  split
  · exact write_wf h _ _ _ hw hs.now
  split
  · exact remove_wf h _ hw hs.now
  · exact wstat_wf h _ (SpM.bd hs hl) hw hs.now
theorem step_wt {T : Tr} (h : WF T) (h2 : WT T) (s : SpM) : WT (stepT T s).1 := by
  unfold stepT
  split
  · exact h2
  split
  · exact h2
  split
  · exact open_wt h2 _ _ _ _
  split
  · exact create_wt h h2 _ _ _ _ _ _
  split
  · exact h2
  split
  · exact h2
  split
  · exact write_wt h h2 _ _ _ _ _
  split
  · exact remove_wt h h2 _ _ _
  · exact wstat_wt h h2 _ _ _ _
theorem step_last (T : Tr) (s : SpM) : (stepT T s).1.last ≤ T.last + 1 := by
  unfold stepT
  split
  · exact Nat.le_succ _
  split
  · exact Nat.le_succ _
  split
  · show (openT T _ _ _ _).1.last ≤ _; rw [open_last]; exact Nat.le_succ _
  split
  · exact create_last _ _ _ _ _ _
  split
  · exact Nat.le_succ _
  split
  · exact Nat.le_succ _
  split
  · show (writeT T _ _ _ _ _).1.last ≤ _; rw [write_last]; exact Nat.le_succ _
  split
  · rw [remove_last]; exact Nat.le_succ _
  · rw [wstat_last]; exact Nat.le_succ _
/-- both trees in memory, apart -/
structure TwoT (w : World) (ρ : Nat → Role) (G : Nat → Prop) (b b' cnt : Nat) (T U : Tr) : Prop where
  p : ∃ mb am vk, PTreeP w ρ b mb cnt T am vk
  r : ∃ g cap vks, RTreeP w G b' U g cap vks
  ap : ∀ k, Foot ρ k → ¬ G k
  wfT : WF T
  wfU : WF U
/-- from one world to a later one -/
structure TwM (w w' : World) (ρ ρ' : Nat → Role) (G G' : Nat → Prop) : Prop where
  m : Mod (fun k => Foot ρ k ∨ G k) w w'
  gp : GrowsF w (Foot ρ) (Foot ρ')
  gr : GrowsF w G G'
theorem TwM.refl (w : World) (ρ : Nat → Role) (G : Nat → Prop) : TwM w w ρ ρ G G := ⟨Mod.refl _ _, GrowsF.refl _ _, GrowsF.refl _ _⟩
theorem TwM.trans {w w1 w2 : World} {ρ ρ1 ρ2 : Nat → Role} {G G1 G2 : Nat → Prop} (h : TwM w w1 ρ ρ1 G G1) (k : TwM w1 w2 ρ1 ρ2 G1 G2) : TwM w w2 ρ ρ2 G G2 :=
  ⟨h.m.trans' k.m fun j hj x => by
    rcases x with x | x
    · rcases h.gp j x with y | y
      · exact .inl y
      · omega
    · rcases h.gr j x with y | y
      · exact .inr y
      · omega, h.gp.trans k.gp h.m.size, h.gr.trans k.gr h.m.size⟩
theorem TwM.keep {w w' : World} {ρ ρ' : Nat → Role} {G G' : Nat → Prop} (h : TwM w w' ρ ρ' G G') {b : Nat} (hb : b < w.heap.size) (h1 : ¬ Foot ρ b) (h2 : ¬ G b) : w'.heap[b]? = w.heap[b]? ∧ ¬ Foot ρ' b ∧ ¬ G' b :=
  ⟨h.m.block b hb (fun x => x.elim h1 h2), fun x => by
    rcases h.gp b x with y | y
    · exact h1 y
    · omega, fun x => by
    rcases h.gr b x with y | y
    · exact h2 y
    · omega⟩
theorem TwoT.ltP {w : World} {ρ : Nat → Role} {G : Nat → Prop} {b b' cnt : Nat} {T U : Tr} (h : TwoT w ρ G b b' cnt T U) : ∀ k, Foot ρ k → k < w.heap.size := by
  obtain ⟨mb, am, vk, hp⟩ := h.p
  exact hp.lt
theorem TwoT.ltR {w : World} {ρ : Nat → Role} {G : Nat → Prop} {b b' cnt : Nat} {T U : Tr} (h : TwoT w ρ G b b' cnt T U) : ∀ k, G k → k < w.heap.size := by
  obtain ⟨g, cap, vks, hr⟩ := h.r
  exact hr.lt
theorem TwoT.out {w : World} {ρ : Nat → Role} {G : Nat → Prop} {b b' cnt : Nat} {T U : Tr} (h : TwoT w ρ G b b' cnt T U) {k : Nat} (hk : w.heap.size ≤ k) : ¬ Foot ρ k ∧ ¬ G k :=
  ⟨fun x => by have := h.ltP k x; omega, fun x => by have := h.ltR k x; omega⟩
theorem foot_none {ρ : Nat → Role} {k : Nat} (h : ¬ Foot ρ k) : ρ k = .none := by
  unfold Foot at h
  exact Classical.not_not.1 h
section
variable {w w1 : World} {ρ ρ1 : Nat → Role} {G G1 : Nat → Prop} {b b' cnt cnt1 : Nat} {T T1 U U1 : Tr}
theorem TwoT.doP (h : TwoT w ρ G b b' cnt T U) (hp : ∃ mb am vk, PTreeP w1 ρ1 b mb cnt1 T1 am vk) (m : Mod (Foot ρ) w w1) (g : GrowsF w (Foot ρ) (Foot ρ1)) (wf : WF T1) : TwoT w1 ρ1 G b b' cnt1 T1 U ∧ TwM w w1 ρ ρ1 G G := by
  have hlt := h.ltR
  obtain ⟨gg, cap, vks, hr⟩ := h.r
  refine ⟨⟨hp, ⟨gg, cap, vks, hr.mod m h.ap⟩, fun k hk hg => ?_, wf, h.wfU⟩, ⟨m.mono fun _ _ x => .inl x, g, GrowsF.refl _ _⟩⟩
  rcases g k hk with x | x
  · exact h.ap k x hg
  · have := hlt k hg; omega
theorem TwoT.doR (h : TwoT w ρ G b b' cnt T U) (hr : ∃ g cap vks, RTreeP w1 G1 b' U1 g cap vks) (m : Mod G w w1) (g : GrowsF w G G1) (wf : WF U1) : TwoT w1 ρ G1 b b' cnt T U1 ∧ TwM w w1 ρ ρ G G1 := by
  have hlt := h.ltP
  obtain ⟨mb, am, vk, hp⟩ := h.p
  refine ⟨⟨⟨mb, am, vk, hp.mod m fun k hk => foot_none fun x => h.ap k x hk⟩, hr, fun k hk hg => ?_, h.wfT, wf⟩, ⟨m.mono fun _ _ x => .inr x, GrowsF.refl _ _, g⟩⟩
  rcases g k hg with x | x
  · exact h.ap k hk x
  · have := hlt k hk; omega
theorem TwoT.do0 (h : TwoT w ρ G b b' cnt T U) (m : Mod (fun _ => False) w w1) : TwoT w1 ρ G b b' cnt T U ∧ TwM w w1 ρ ρ G G := by
  obtain ⟨mb, am, vk, hp⟩ := h.p
  obtain ⟨gg, cap, vks, hr⟩ := h.r
  exact ⟨⟨⟨mb, am, vk, hp.mod0 m⟩, ⟨gg, cap, vks, hr.mod m fun _ x => x.elim⟩, h.ap, h.wfT, h.wfU⟩, ⟨m.mono fun _ _ x => x.elim, GrowsF.refl _ _, GrowsF.refl _ _⟩⟩
theorem TwoT.mono (h : TwoT w ρ G b b' cnt T U) (hc : cnt ≤ cnt1) : TwoT w ρ G b b' cnt1 T U := by
  obtain ⟨mb, am, vk, hp⟩ := h.p
  exact ⟨⟨mb, am, vk, hp.mono hc⟩, h.r, h.ap, h.wfT, h.wfU⟩
end
/-- the tables of the library, as they were laid; the trees lie behind them -/
structure Bse (W0 w : World) (ρ : Nat → Role) (G : Nat → Prop) : Prop where
  t : Tabs W0
  m : Mod (fun _ => False) W0 w
  n : ∀ k, Foot ρ k ∨ G k → W0.heap.size ≤ k
theorem Bse.tabs {W0 w : World} {ρ : Nat → Role} {G : Nat → Prop} (h : Bse W0 w ρ G) : Tabs w := h.t.mod h.m
theorem Bse.step {W0 w w' : World} {ρ ρ' : Nat → Role} {G G' : Nat → Prop} (h : Bse W0 w ρ G) (k : TwM w w' ρ ρ' G G') : Bse W0 w' ρ' G' :=
  ⟨h.t, h.m.trans' k.m fun j hj x => by have := h.n j x; omega, fun j x => by
    have hs := h.m.size
    rcases x with x | x
    · rcases k.gp j x with y | y
      · exact h.n j (.inl y)
      · omega
    · rcases k.gr j x with y | y
      · exact h.n j (.inr y)
      · omega⟩
/-- the package's answer, the document's answer -/
def RetP (w : World) (ρ : Nat → Role) (G : Nat → Prop) (b b' cnt : Nat) (U : Tr) (val : Value) (T1 : Tr) (e : Ending) (w' : World) : Prop :=
  e = .returned val ∧ ∃ ρ1, TwoT w' ρ1 G b b' (cnt + 1) T1 U ∧ TwM w w' ρ ρ1 G G
def RetR (w : World) (ρ : Nat → Role) (G : Nat → Prop) (b b' cnt : Nat) (T : Tr) (val : Value) (U1 : Tr) (e : Ending) (w' : World) : Prop :=
  e = .returned val ∧ ∃ G1, TwoT w' ρ G1 b b' cnt T U1 ∧ TwM w w' ρ ρ G G1
section
variable {w : World} {ρ : Nat → Role} {G : Nat → Prop} {b b' cnt : Nat} {T U : Tr}
theorem RetP.of0 (h : TwoT w ρ G b b' cnt T U) {val : Value} {e : Ending} {w' : World} (he : e = .returned val) (m : Mod (fun _ => False) w w') : RetP w ρ G b b' cnt U val T e w' := by
  obtain ⟨h1, h2⟩ := h.do0 m
  exact ⟨he, ρ, h1.mono (Nat.le_succ _), h2⟩
theorem RetR.of0 (h : TwoT w ρ G b b' cnt T U) {val : Value} {e : Ending} {w' : World} (he : e = .returned val) (m : Mod (fun _ => False) w w') : RetR w ρ G b b' cnt T val U e w' := by
  obtain ⟨h1, h2⟩ := h.do0 m
  exact ⟨he, G, h1, h2⟩
theorem tp_walk (h : TwoT w ρ G b b' cnt T U) (p : Nat) (name who : ByteArray) (hp : p < 18446744073709551616) (hn : name.size ≤ 4096) (hT : Tabs w) : Calls Tryz.prog 28 #[.pointer (some ⟨b, 0, none⟩), .int .u64 p, .string name, .string who] w (RetP w ρ G b b' cnt U (.tuple #[.agg (qiC (walkT T p name who).1).toArray, .int .i64 (walkT T p name who).2]) T) := by
  obtain ⟨mb, am, vk, hP⟩ := h.p
  exact (pwalk_any hP h.wfT p name who hp (by omega) hT).mono fun e w' x => RetP.of0 h x.1 x.2
theorem tr_walk (h : TwoT w ρ G b b' cnt T U) (p : Nat) (name who : ByteArray) (hn : name.size ≤ 4096) (hT : Tabs w) : Calls Tryz.prog 38 #[.pointer (some ⟨b', 0, none⟩), .int .u64 p, .string name, .string who] w (RetR w ρ G b b' cnt T (.tuple #[.agg (qiC (walkT U p name who).1).toArray, .int .i64 (walkT U p name who).2]) U) := by
  obtain ⟨g, cap, vks, hR⟩ := h.r
  exact (rWalk_any b' g cap U vks p name who w hR.rv h.wfU (by omega) hT).mono fun e w' x => RetR.of0 h x.1 x.2
theorem tp_open (h : TwoT w ρ G b b' cnt T U) (p m : Nat) (who : ByteArray) (now : Nat) (hp : p < 18446744073709551616) (hm : m < 256) (hw : who.size ≤ 4096) (hn : now < 4294967296) : Calls Tryz.prog 29 #[.pointer (some ⟨b, 0, none⟩), .int .u64 p, .int .u8 m, .string who, .int .u32 now] w (RetP w ρ G b b' cnt U (.tuple #[.agg (qiC (openT T p m who now).2.1).toArray, .int .i64 (openT T p m who now).2.2]) (openT T p m who now).1) := by
  obtain ⟨mb, am, vk, hP⟩ := h.p
  refine (popen_any hP h.wfT p m who now hp hm).mono fun e w' x => ?_
  obtain ⟨x1, x2, x3⟩ := x
  obtain ⟨h1, h2⟩ := h.doP ⟨mb, am, vk, x2.mono (Nat.le_succ cnt)⟩ x3 (GrowsF.refl _ _) (open_wf h.wfT p m (by omega) hn)
  exact ⟨x1, ρ, h1, h2⟩
theorem tr_open (h : TwoT w ρ G b b' cnt T U) (p m : Nat) (who : ByteArray) (now : Nat) (hm : m < 256) (hw : who.size ≤ 4096) (hn : now < 4294967296) : Calls Tryz.prog 39 #[.pointer (some ⟨b', 0, none⟩), .int .u64 p, .int .u8 m, .string who, .int .u32 now] w (RetR w ρ G b b' cnt T (.tuple #[.agg (qiC (openT U p m who now).2.1).toArray, .int .i64 (openT U p m who now).2.2]) (openT U p m who now).1) := by
  obtain ⟨g, cap, vks, hR⟩ := h.r
  refine (rOpen_any G b' g cap U vks p m who now w hR h.wfU hm).mono fun e w' x => ?_
  obtain ⟨x1, x2, x3⟩ := x
  obtain ⟨h1, h2⟩ := h.doR ⟨g, cap, vks, x2⟩ x3 (GrowsF.refl _ _) (open_wf h.wfU p m (by omega) hn)
  exact ⟨x1, G, h1, h2⟩
theorem tp_create (h : TwoT w ρ G b b' cnt T U) (hc : cnt < 1000000) (p : Nat) (name : ByteArray) (perm m : Nat) (who : ByteArray) (now : Nat) (hp : p < 18446744073709551616) (hp2 : perm < 4294967296) (hm : m < 256) (hn : name.size ≤ 4096) (hw : who.size ≤ 4096) (ht : now < 4294967296) (hl : T.last + 1 < 18446744073709551616) (hT : Tabs w) :
    Calls Tryz.prog 22 #[.pointer (some ⟨b, 0, none⟩), .int .u64 p, .string name, .int .u32 perm, .int .u8 m, .string who, .int .u32 now] w (RetP w ρ G b b' cnt U (.tuple #[.agg (qiC (createT T p name perm m who now).2.1).toArray, .int .i64 (createT T p name perm m who now).2.2]) (createT T p name perm m who now).1) := by
  obtain ⟨mb, am, vk, hP⟩ := h.p
  refine (pcreate_any hP h.wfT hc p name perm m who now hp hp2 hm (by omega) (by omega) hl hT).mono fun e w' x => ?_
  obtain ⟨x1, ρ', am', vk', x2, x3, x4⟩ := x
  obtain ⟨h1, h2⟩ := h.doP ⟨mb, am', vk', x2⟩ x3 x4 (create_wf h.wfT p perm m (by omega) (by omega) ht hl)
  exact ⟨x1, ρ', h1, h2⟩
theorem tr_create (h : TwoT w ρ G b b' cnt T U) (p : Nat) (name : ByteArray) (perm m : Nat) (who : ByteArray) (now : Nat) (hp2 : perm < 4294967296) (hm : m < 256) (hn : name.size ≤ 4096) (hw : who.size ≤ 4096) (ht : now < 4294967296) (hl : U.last + 1 < 18446744073709551616) (hT : Tabs w) :
    Calls Tryz.prog 40 #[.pointer (some ⟨b', 0, none⟩), .int .u64 p, .string name, .int .u32 perm, .int .u8 m, .string who, .int .u32 now] w (RetR w ρ G b b' cnt T (.tuple #[.agg (qiC (createT U p name perm m who now).2.1).toArray, .int .i64 (createT U p name perm m who now).2.2]) (createT U p name perm m who now).1) := by
  obtain ⟨g, cap, vks, hR⟩ := h.r
  refine (rCreate_any G b' g cap U vks p name perm m who now w hR h.wfU hp2 hm (by omega) (by omega) hl hT).mono fun e w' x => ?_
  obtain ⟨x1, F', g', cap', vks', x2, x3, x4⟩ := x
  obtain ⟨h1, h2⟩ := h.doR ⟨g', cap', vks', x2⟩ x3 x4 (create_wf h.wfU p perm m (by omega) (by omega) ht hl)
  exact ⟨x1, F', h1, h2⟩
theorem tp_read (h : TwoT w ρ G b b' cnt T U) (p off count : Nat) (hp : p < 18446744073709551616) (ho : off < 18446744073709551616) (hc : count < 4294967296) : Calls Tryz.prog 30 #[.pointer (some ⟨b, 0, none⟩), .int .u64 p, .int .u64 off, .int .u32 count] w (RetP w ρ G b b' cnt U (.tuple #[.string (readT T p off count).1, .int .i64 (readT T p off count).2]) T) := by
  obtain ⟨mb, am, vk, hP⟩ := h.p
  exact (pread_any hP h.wfT p off count hp ho hc).mono fun e w' x => RetP.of0 h x.1 x.2
theorem tr_read (h : TwoT w ρ G b b' cnt T U) (p off count : Nat) (ho : off < 18446744073709551616) (hc : count < 4294967296) : Calls Tryz.prog 41 #[.pointer (some ⟨b', 0, none⟩), .int .u64 p, .int .u64 off, .int .u32 count] w (RetR w ρ G b b' cnt T (.tuple #[.string (readT U p off count).1, .int .i64 (readT U p off count).2]) U) := by
  obtain ⟨g, cap, vks, hR⟩ := h.r
  exact (rRead_any b' g cap U vks p off count w hR.rv h.wfU.len h.wfU.ok ho hc).mono fun e w' x => RetR.of0 h x.1 (by rw [x.2]; exact Mod.refl _ _)
theorem tp_write (h : TwoT w ρ G b b' cnt T U) (p off : Nat) (d who : ByteArray) (now : Nat) (hp : p < 18446744073709551616) (ho : off < 18446744073709551616) (hd : d.size ≤ 131072) (hw : who.size ≤ 4096) (hn : now < 4294967296) : Calls Tryz.prog 23 #[.pointer (some ⟨b, 0, none⟩), .int .u64 p, .int .u64 off, .string d, .string who, .int .u32 now] w (RetP w ρ G b b' cnt U (.tuple #[.int .u32 (writeT T p off d who now).2.1, .int .i64 (writeT T p off d who now).2.2]) (writeT T p off d who now).1) := by
  obtain ⟨mb, am, vk, hP⟩ := h.p
  refine (pwrite_any hP h.wfT p off d who now hp ho (by omega)).mono fun e w' x => ?_
  obtain ⟨x1, x2, x3⟩ := x
  obtain ⟨h1, h2⟩ := h.doP ⟨mb, am, vk, x2.mono (Nat.le_succ cnt)⟩ x3 (GrowsF.refl _ _) (write_wf h.wfT p off d (by omega) hn)
  exact ⟨x1, ρ, h1, h2⟩
theorem tr_write (h : TwoT w ρ G b b' cnt T U) (p off : Nat) (d who : ByteArray) (now : Nat) (ho : off < 18446744073709551616) (hd : d.size ≤ 131072) (hw : who.size ≤ 4096) (hn : now < 4294967296) : Calls Tryz.prog 44 #[.pointer (some ⟨b', 0, none⟩), .int .u64 p, .int .u64 off, .string d, .string who, .int .u32 now] w (RetR w ρ G b b' cnt T (.tuple #[.int .u32 (writeT U p off d who now).2.1, .int .i64 (writeT U p off d who now).2.2]) (writeT U p off d who now).1) := by
  obtain ⟨g, cap, vks, hR⟩ := h.r
  refine (rWrite_any G b' g cap U vks p off d who now w hR h.wfU ho (by omega)).mono fun e w' x => ?_
  obtain ⟨x1, x2, x3⟩ := x
  obtain ⟨h1, h2⟩ := h.doR ⟨g, cap, vks, x2⟩ x3 (GrowsF.refl _ _) (write_wf h.wfU p off d (by omega) hn)
  exact ⟨x1, G, h1, h2⟩
theorem tp_remove (h : TwoT w ρ G b b' cnt T U) (p : Nat) (who : ByteArray) (now : Nat) (hp : p < 18446744073709551616) (hw : who.size ≤ 4096) (hn : now < 4294967296) : Calls Tryz.prog 32 #[.pointer (some ⟨b, 0, none⟩), .int .u64 p, .string who, .int .u32 now] w (RetP w ρ G b b' cnt U (.int .i64 (removeT T p who now).2) (removeT T p who now).1) := by
  obtain ⟨mb, am, vk, hP⟩ := h.p
  refine (premove_any hP h.wfT p who now hp).mono fun e w' x => ?_
  obtain ⟨x1, x2, x3⟩ := x
  obtain ⟨h1, h2⟩ := h.doP ⟨mb, am, vk, x2.mono (Nat.le_succ cnt)⟩ x3 (GrowsF.refl _ _) (remove_wf h.wfT p (by omega) hn)
  exact ⟨x1, ρ, h1, h2⟩
theorem tr_remove (h : TwoT w ρ G b b' cnt T U) (p : Nat) (who : ByteArray) (now : Nat) (hw : who.size ≤ 4096) (hn : now < 4294967296) : Calls Tryz.prog 45 #[.pointer (some ⟨b', 0, none⟩), .int .u64 p, .string who, .int .u32 now] w (RetR w ρ G b b' cnt T (.int .i64 (removeT U p who now).2) (removeT U p who now).1) := by
  obtain ⟨g, cap, vks, hR⟩ := h.r
  refine (rRemove_any G b' g cap U vks p who now w hR h.wfU).mono fun e w' x => ?_
  obtain ⟨x1, F', g', cap', vks', x2, x3, x4⟩ := x
  obtain ⟨h1, h2⟩ := h.doR ⟨g', cap', vks', x2⟩ x3 x4 (remove_wf h.wfU p (by omega) hn)
  exact ⟨x1, F', h1, h2⟩
theorem tp_wstat (h : TwoT w ρ G b b' cnt T U) (p : Nat) (s : St) (who : ByteArray) (now : Nat) (hp : p < 18446744073709551616) (hs : s.Bd) (hw : who.size ≤ 4096) (hn : now < 4294967296) (hT : Tabs w) : Calls Tryz.prog 33 #[.pointer (some ⟨b, 0, none⟩), .int .u64 p, .agg s.cells.toArray, .string who, .int .u32 now] w (RetP w ρ G b b' cnt U (.int .i64 (wstatT T p s who now).2) (wstatT T p s who now).1) := by
  obtain ⟨mb, am, vk, hP⟩ := h.p
  refine (pwstat_any hP h.wfT hT p s who now hp hs (by omega)).mono fun e w' x => ?_
  obtain ⟨x1, x2, x3⟩ := x
  obtain ⟨h1, h2⟩ := h.doP ⟨mb, am, vk, x2.mono (Nat.le_succ cnt)⟩ x3 (GrowsF.refl _ _) (wstat_wf h.wfT p hs (by omega) hn)
  exact ⟨x1, ρ, h1, h2⟩
theorem tr_wstat (h : TwoT w ρ G b b' cnt T U) (p : Nat) (s : St) (who : ByteArray) (now : Nat) (hs : s.Bd) (hw : who.size ≤ 4096) (hn : now < 4294967296) (hT : Tabs w) : Calls Tryz.prog 46 #[.pointer (some ⟨b', 0, none⟩), .int .u64 p, .agg s.cells.toArray, .string who, .int .u32 now] w (RetR w ρ G b b' cnt T (.int .i64 (wstatT U p s who now).2) (wstatT U p s who now).1) := by
  obtain ⟨g, cap, vks, hR⟩ := h.r
  refine (rWstat_any hR h.wfU hT p s who now hs (by omega) hn).mono fun e w' x => ?_
  obtain ⟨x1, x2, x3⟩ := x
  obtain ⟨h1, h2⟩ := h.doR ⟨g, cap, vks, x2⟩ x3 (GrowsF.refl _ _) (wstat_wf h.wfU p hs (by omega) hn)
  exact ⟨x1, G, h1, h2⟩
end
/-- a step in both trees -/
def SPost (b b' cnt : Nat) (T U : Tr) (ρ : Nat → Role) (G : Nat → Prop) (s : SpM) (w : World) (e : Ending) (w' : World) : Prop :=
  ∃ v ρ' G', e = .returned (.tuple #[.int .i64 (stepT T s).2, .bool v]) ∧ (T = U → v = true) ∧ TwoT w' ρ' G' b b' (cnt + 1) (stepT T s).1 (stepT U s).1 ∧ TwM w w' ρ ρ' G G'
end Go.Proofs.YtkcnbbjmkkaolaaGreatDoor
namespace Go.Proofs.YtkcnbbjmkkaolaaGreatDoor
open Go.RowKit

/-- within the reach -/
structure SpM.Rc (s : SpM) : Prop where
  name : s.name.size ≤ 140737488355328
  who : s.who.size ≤ 140737488355328
  n : s.st.n.size ≤ 140737488355328
  u : s.st.u.size ≤ 140737488355328
  g : s.st.g.size ≤ 140737488355328
  m : s.st.m.size ≤ 140737488355328
  data : s.data.size ≤ 140737488355328
def HvP (l : List SpM) (w : World) (e : Ending) (w' : World) : Prop := ∃ bv, e = .returned (.bool bv) ∧ (bv = false → l.length ≤ 120 ∧ ∀ s ∈ l, s.Lt) ∧ Mod (fun _ => False) w w'
set_option maxHeartbeats 4000000 in
set_option maxRecDepth 100000 in
theorem heavy_any (v : Value) (l : List SpM) (w : World) (h : RecsAt SpM.cells 23 w (fun _ => True) v l) (hr : ∀ s ∈ l, s.Rc) (hlen : l.length ≤ 140737488355328) :
    Calls Tryz.prog 8 #[v] w (HvP l w) := by
  obtain ⟨a1, cap1, rfl, hcap1, hx1⟩ := h.form
  by_cases hb : 120 < l.length
  · have t1 : decide (120 < (l.length : Int)) = true := by simp; omega
    have t1' : decide (120 < l.length) = true := by simp; omega
    go_enter Tryz.func8, Tryz.ntmps8
    go_wp2
    go_ret
    exact ⟨true, rfl, (fun e => by cases e), Mod.refl _ _⟩
  have t1 : decide (120 < (l.length : Int)) = false := by simp; omega
  have t1' : decide (120 < l.length) = false := by simp; omega
  have HR := Lib.hid hr
  clear hr
  go_enter Tryz.func8, Tryz.ntmps8
  go_wp2
  go_loopw [3, 4] (fun i _ wr => ∃ (k : Nat), k ≤ l.length ∧ i = .int .i64 k ∧ Hid (Mod (fun _ => False) w wr) ∧ Hid (∀ j (hj : j < l.length), j < k → l[j].Lt)) (fun i _ _ => l.length - (intOf i).toNat)
  case atStart => exact ⟨0, by omega, rfl, Mod.refl _ _, fun j hj h => by omega⟩
  case round =>
    obtain ⟨k, hk, rfl, HM, HA⟩ := hrel
    by_cases hlt : k < l.length
    · obtain ⟨g1, o1, rfl, _, hg1, hc1⟩ := hx1 k l[k] (List.getElem?_eq_getElem hlt)
      have hrc := HR.out l[k] (List.getElem_mem hlt)
      have HB : Hid (l[k].Lt → ∀ j (hj : j < l.length), j < k + 1 → l[j].Lt) := fun hL j hj h => by
        rcases Nat.lt_or_ge j k with x | x
        · exact HA.out j hj x
        · have : j = k := by omega
          subst this; exact hL
      generalize l[k] = s at *
      have t2 : decide ((k : Int) < (l.length : Int)) = true := by simp; omega
      have t2' : decide (k < l.length) = true := by simp; omega
      have hr1 : wr.rangeAt g1 (o1 + k * 23) s.cells := rec_rng hg1 hc1 HM.out
      have hone := sp_one s
      have hsl := sp_len s
      have i1 : (0 : Int) ≤ (k : Int) := by omega
      have i2 : (k : Int) < (l.length : Int) := by omega
      have i3 : (l.length : Int) ≤ (cap1 : Int) := by omega
      clear hc1 HA
      go_upto_region 7 with (first | refine wpList_load_mid rfl 44 (.tmp 16) rfl g1 (o1 + k * 23) rfl s.cells _ hr1 Tryz.underlying44 rfl (by kernel_rfl) ?_ | (refine wpl_store_row rfl 44 (.tmp 4) (.tmp 17) rfl rfl wr.heap.size s.cells rfl rfl 44 _ (new_at _ _) rfl hone (by kernel_rfl) ?_; intro V1 hd1 md1))
      have M1 : Hid (Mod (fun _ => False) w V1) := (HM.out.alloc _).trans' md1 fun k hk e => by have := HM.out.size; omega
      have e2 : V1.cell? ⟨wr.heap.size, 2, none⟩ = some (.string s.name) := (cell_of hd1 2).trans rfl
      have e3 : V1.cell? ⟨wr.heap.size, 3, none⟩ = some (.string s.who) := (cell_of hd1 3).trans rfl
      have e9 : V1.cell? ⟨wr.heap.size, 9, none⟩ = some (.string s.data) := (cell_of hd1 9).trans rfl
      have e19 : V1.cell? ⟨wr.heap.size, 19, none⟩ = some (.string s.st.n) := (cell_of hd1 19).trans rfl
      have e20 : V1.cell? ⟨wr.heap.size, 20, none⟩ = some (.string s.st.u) := (cell_of hd1 20).trans rfl
      have e21 : V1.cell? ⟨wr.heap.size, 21, none⟩ = some (.string s.st.g) := (cell_of hd1 21).trans rfl
      have e22 : V1.cell? ⟨wr.heap.size, 22, none⟩ = some (.string s.st.m) := (cell_of hd1 22).trans rfl
      have s1 := hrc.name
      have s2 := hrc.who
      have s3 := hrc.n
      have s4 := hrc.u
      have s5 := hrc.g
      have s6 := hrc.m
      have s7 := hrc.data
      obtain ⟨bx, hbx⟩ : ∃ x, decide (4096 < (s.name.size : Int) + s.who.size + s.st.n.size + s.st.u.size + s.st.g.size + s.st.m.size) = x := ⟨_, rfl⟩
      obtain ⟨bd, hbd⟩ : ∃ x, decide (131072 < (s.data.size : Int)) = x := ⟨_, rfl⟩
      have hbd' : decide (131072 < s.data.size) = bd := by rw [← hbd, Bool.eq_iff_iff]; simp; omega
      have HL : Hid (bx = false → bd = false → s.Lt) := fun h1 h2 => by
        rw [← hbx] at h1
        rw [← hbd] at h2
        have h1 := of_decide_eq_false h1
        have h2 := of_decide_eq_false h2
        exact ⟨by omega, by omega, by omega, by omega, by omega, by omega, by omega⟩
      clear hd1 md1 hr1 hone hrc
      cases bx with
      | true =>
        go_wp2
        go_ret
        exact ⟨true, rfl, (fun e => by cases e), M1.out⟩
      | false =>
      cases bd with
      | true =>
        go_wp2
        go_ret
        exact ⟨true, rfl, (fun e => by cases e), M1.out⟩
      | false =>
        have HB2 := Lib.hid (HB.out (HL.out rfl rfl))
        clear HB HL
        go_wp2
        go_roundw
        case rel => exact ⟨k + 1, hlt, by go_num, M1.out, HB2.out⟩
        case measure => simp [intOf]; omega
    · obtain rfl : k = l.length := by omega
      have t2 : decide ((l.length : Int) < (l.length : Int)) = false := by simp
      have t2' : decide (l.length < l.length) = false := by simp
      go_wp2
      go_ret
      refine ⟨false, rfl, fun _ => ⟨by omega, fun s hs => ?_⟩, HM.out⟩
      obtain ⟨j, hj, rfl⟩ := List.mem_iff_getElem.1 hs
      exact HA.out j hj hj
end Go.Proofs.YtkcnbbjmkkaolaaGreatDoor
namespace Go.Proofs.YtkcnbbjmkkaolaaGreatDoor
open Go.ChangeShapes Go.WideShapes Go.ChangeAt Go.RowKit

theorem list23 {α : Type} (l : List α) (h : l.length = 23) : ∃ c0 c1 c2 c3 c4 c5 c6 c7 c8 c9 c10 c11 c12 c13 c14 c15 c16 c17 c18 c19 c20 c21 c22, l = [c0, c1, c2, c3, c4, c5, c6, c7, c8, c9, c10, c11, c12, c13, c14, c15, c16, c17, c18, c19, c20, c21, c22] := by
  match l, h with
  | [c0, c1, c2, c3, c4, c5, c6, c7, c8, c9, c10, c11, c12, c13, c14, c15, c16, c17, c18, c19, c20, c21, c22], _ => exact ⟨_, _, _, _, _, _, _, _, _, _, _, _, _, _, _, _, _, _, _, _, _, _, _, rfl⟩
set_option maxRecDepth 100000 in
set_option maxHeartbeats 4000000 in
theorem trod_stepM {H : Type} {enc : TypeId × Value → H} {W : World} {fuel : Nat} {cs : List Value} {x : DataW H × List MemPlace} (h : DataW.trod enc Tryz.prog W 0 (fun _ => true) true fuel 44 cs = some x) :
    ∃ s : SpM, cs = s.cells ∧ s.Ok ∧ ((∀ k ∈ x.1.weights Tryz.prog 44, k ≤ reachBytes) → s.Rc) := by
  obtain ⟨xs, fu, rfl, rfl, hl, hlen, hf⟩ := DataW.trod_struct Tryz.underlying44 h
  rw [show Tryz.prog.cellsOf 44 = 23 from by kernel_rfl] at hl
  obtain ⟨c0, c1, c2, c3, c4, c5, c6, c7, c8, c9, c10, c11, c12, c13, c14, c15, c16, c17, c18, c19, c20, c21, c22, rfl⟩ := list23 cs hl
  obtain ⟨y0, y1, y2, y3, y4, y5, y6, y7, y8, y9, y10, rfl⟩ := list11 xs hlen
  have gc0 : DataW.trod enc Tryz.prog W 0 (fun _ => true) true fu 3 [c0] = some y0 := by
    have h : DataW.trod enc Tryz.prog W 0 (fun _ => true) true fu 3 (List.take (Tryz.prog.cellsOf 3) (List.drop 0 [c0, c1, c2, c3, c4, c5, c6, c7, c8, c9, c10, c11, c12, c13, c14, c15, c16, c17, c18, c19, c20, c21, c22])) = some y0 := hf 0 _ rfl
    rw [show Tryz.prog.cellsOf 3 = 1 from by kernel_rfl] at h
    exact h
  obtain ⟨dof, ec0, _, wc0⟩ := DataW.trod_int Tryz.underlying3 gc0
  obtain rfl : c0 = .int .i64 dof := by simpa using ec0
  clear gc0 ec0 wc0
  have gc1 : DataW.trod enc Tryz.prog W 0 (fun _ => true) true fu 33 [c1] = some y1 := by
    have h : DataW.trod enc Tryz.prog W 0 (fun _ => true) true fu 33 (List.take (Tryz.prog.cellsOf 33) (List.drop 1 [.int .i64 dof, c1, c2, c3, c4, c5, c6, c7, c8, c9, c10, c11, c12, c13, c14, c15, c16, c17, c18, c19, c20, c21, c22])) = some y1 := hf 1 _ rfl
    rw [show Tryz.prog.cellsOf 33 = 1 from by kernel_rfl] at h
    exact h
  obtain ⟨xc1, ec1, _, wc1⟩ := DataW.trod_int Tryz.underlying33 gc1
  obtain ⟨path, rfl, bpath⟩ := wf_lt (m := 18446744073709551615) wc1 rfl rfl
  obtain rfl : c1 = .int .u64 path := by simpa using ec1
  clear gc1 ec1 wc1
  have gc2 : DataW.trod enc Tryz.prog W 0 (fun _ => true) true fu 9 [c2] = some y2 := by
    have h : DataW.trod enc Tryz.prog W 0 (fun _ => true) true fu 9 (List.take (Tryz.prog.cellsOf 9) (List.drop 2 [.int .i64 dof, .int .u64 path, c2, c3, c4, c5, c6, c7, c8, c9, c10, c11, c12, c13, c14, c15, c16, c17, c18, c19, c20, c21, c22])) = some y2 := hf 2 _ rfl
    rw [show Tryz.prog.cellsOf 9 = 1 from by kernel_rfl] at h
    exact h
  obtain ⟨name, ec2, dc2, wc2⟩ := DataW.trod_string Tryz.underlying9 gc2
  obtain rfl : c2 = .string name := by simpa using ec2
  subst dc2
  clear gc2 ec2
  have gc3 : DataW.trod enc Tryz.prog W 0 (fun _ => true) true fu 9 [c3] = some y3 := by
    have h : DataW.trod enc Tryz.prog W 0 (fun _ => true) true fu 9 (List.take (Tryz.prog.cellsOf 9) (List.drop 3 [.int .i64 dof, .int .u64 path, .string name, c3, c4, c5, c6, c7, c8, c9, c10, c11, c12, c13, c14, c15, c16, c17, c18, c19, c20, c21, c22])) = some y3 := hf 3 _ rfl
    rw [show Tryz.prog.cellsOf 9 = 1 from by kernel_rfl] at h
    exact h
  obtain ⟨who, ec3, dc3, wc3⟩ := DataW.trod_string Tryz.underlying9 gc3
  obtain rfl : c3 = .string who := by simpa using ec3
  subst dc3
  clear gc3 ec3
  have gc4 : DataW.trod enc Tryz.prog W 0 (fun _ => true) true fu 22 [c4] = some y4 := by
    have h : DataW.trod enc Tryz.prog W 0 (fun _ => true) true fu 22 (List.take (Tryz.prog.cellsOf 22) (List.drop 4 [.int .i64 dof, .int .u64 path, .string name, .string who, c4, c5, c6, c7, c8, c9, c10, c11, c12, c13, c14, c15, c16, c17, c18, c19, c20, c21, c22])) = some y4 := hf 4 _ rfl
    rw [show Tryz.prog.cellsOf 22 = 1 from by kernel_rfl] at h
    exact h
  obtain ⟨xc4, ec4, _, wc4⟩ := DataW.trod_int Tryz.underlying22 gc4
  obtain ⟨perm, rfl, bperm⟩ := wf_lt (m := 4294967295) wc4 rfl rfl
  obtain rfl : c4 = .int .u32 perm := by simpa using ec4
  clear gc4 ec4 wc4
  have gc5 : DataW.trod enc Tryz.prog W 0 (fun _ => true) true fu 5 [c5] = some y5 := by
    have h : DataW.trod enc Tryz.prog W 0 (fun _ => true) true fu 5 (List.take (Tryz.prog.cellsOf 5) (List.drop 5 [.int .i64 dof, .int .u64 path, .string name, .string who, .int .u32 perm, c5, c6, c7, c8, c9, c10, c11, c12, c13, c14, c15, c16, c17, c18, c19, c20, c21, c22])) = some y5 := hf 5 _ rfl
    rw [show Tryz.prog.cellsOf 5 = 1 from by kernel_rfl] at h
    exact h
  obtain ⟨xc5, ec5, _, wc5⟩ := DataW.trod_int Tryz.underlying5 gc5
  obtain ⟨mode, rfl, bmode⟩ := wf_lt (m := 255) wc5 rfl rfl
  obtain rfl : c5 = .int .u8 mode := by simpa using ec5
  clear gc5 ec5 wc5
  have gc6 : DataW.trod enc Tryz.prog W 0 (fun _ => true) true fu 22 [c6] = some y6 := by
    have h : DataW.trod enc Tryz.prog W 0 (fun _ => true) true fu 22 (List.take (Tryz.prog.cellsOf 22) (List.drop 6 [.int .i64 dof, .int .u64 path, .string name, .string who, .int .u32 perm, .int .u8 mode, c6, c7, c8, c9, c10, c11, c12, c13, c14, c15, c16, c17, c18, c19, c20, c21, c22])) = some y6 := hf 6 _ rfl
    rw [show Tryz.prog.cellsOf 22 = 1 from by kernel_rfl] at h
    exact h
  obtain ⟨xc6, ec6, _, wc6⟩ := DataW.trod_int Tryz.underlying22 gc6
  obtain ⟨now, rfl, bnow⟩ := wf_lt (m := 4294967295) wc6 rfl rfl
  obtain rfl : c6 = .int .u32 now := by simpa using ec6
  clear gc6 ec6 wc6
  have gc7 : DataW.trod enc Tryz.prog W 0 (fun _ => true) true fu 33 [c7] = some y7 := by
    have h : DataW.trod enc Tryz.prog W 0 (fun _ => true) true fu 33 (List.take (Tryz.prog.cellsOf 33) (List.drop 7 [.int .i64 dof, .int .u64 path, .string name, .string who, .int .u32 perm, .int .u8 mode, .int .u32 now, c7, c8, c9, c10, c11, c12, c13, c14, c15, c16, c17, c18, c19, c20, c21, c22])) = some y7 := hf 7 _ rfl
    rw [show Tryz.prog.cellsOf 33 = 1 from by kernel_rfl] at h
    exact h
  obtain ⟨xc7, ec7, _, wc7⟩ := DataW.trod_int Tryz.underlying33 gc7
  obtain ⟨off, rfl, boff⟩ := wf_lt (m := 18446744073709551615) wc7 rfl rfl
  obtain rfl : c7 = .int .u64 off := by simpa using ec7
  clear gc7 ec7 wc7
  have gc8 : DataW.trod enc Tryz.prog W 0 (fun _ => true) true fu 22 [c8] = some y8 := by
    have h : DataW.trod enc Tryz.prog W 0 (fun _ => true) true fu 22 (List.take (Tryz.prog.cellsOf 22) (List.drop 8 [.int .i64 dof, .int .u64 path, .string name, .string who, .int .u32 perm, .int .u8 mode, .int .u32 now, .int .u64 off, c8, c9, c10, c11, c12, c13, c14, c15, c16, c17, c18, c19, c20, c21, c22])) = some y8 := hf 8 _ rfl
    rw [show Tryz.prog.cellsOf 22 = 1 from by kernel_rfl] at h
    exact h
  obtain ⟨xc8, ec8, _, wc8⟩ := DataW.trod_int Tryz.underlying22 gc8
  obtain ⟨count, rfl, bcount⟩ := wf_lt (m := 4294967295) wc8 rfl rfl
  obtain rfl : c8 = .int .u32 count := by simpa using ec8
  clear gc8 ec8 wc8
  have gc9 : DataW.trod enc Tryz.prog W 0 (fun _ => true) true fu 9 [c9] = some y9 := by
    have h : DataW.trod enc Tryz.prog W 0 (fun _ => true) true fu 9 (List.take (Tryz.prog.cellsOf 9) (List.drop 9 [.int .i64 dof, .int .u64 path, .string name, .string who, .int .u32 perm, .int .u8 mode, .int .u32 now, .int .u64 off, .int .u32 count, c9, c10, c11, c12, c13, c14, c15, c16, c17, c18, c19, c20, c21, c22])) = some y9 := hf 9 _ rfl
    rw [show Tryz.prog.cellsOf 9 = 1 from by kernel_rfl] at h
    exact h
  obtain ⟨data, ec9, dc9, wc9⟩ := DataW.trod_string Tryz.underlying9 gc9
  obtain rfl : c9 = .string data := by simpa using ec9
  subst dc9
  clear gc9 ec9
  have hq : DataW.trod enc Tryz.prog W 0 (fun _ => true) true fu 37 [c10, c11, c12, c13, c14, c15, c16, c17, c18, c19, c20, c21, c22] = some y10 := by
    have h : DataW.trod enc Tryz.prog W 0 (fun _ => true) true fu 37 (List.take (Tryz.prog.cellsOf 37) (List.drop 10 [.int .i64 dof, .int .u64 path, .string name, .string who, .int .u32 perm, .int .u8 mode, .int .u32 now, .int .u64 off, .int .u32 count, .string data, c10, c11, c12, c13, c14, c15, c16, c17, c18, c19, c20, c21, c22])) = some y10 := hf 10 _ rfl
    rw [show Tryz.prog.cellsOf 37 = 13 from by kernel_rfl] at h
    exact h
  obtain ⟨st, hst, hk, hw⟩ := trod_stat hq
  refine ⟨⟨dof, path, name, who, perm, mode, now, off, count, data, st⟩, ?_, ⟨by show path < _; omega, by show perm < _; omega, by show mode < _; omega, by show now < _; omega, by show off < _; omega, by show count < _; omega, hk⟩, fun hr => ?_⟩
  · unfold SpM.cells
    rw [← hst]; rfl
  · obtain ⟨h1, h2, h3, h4⟩ := hw fun k hk2 => hr k (by simp [DataW.weights, DataW.weightsEach, Tryz.underlying44, hk2])
    have hR : reachBytes ≤ 140737488355328 := by decide
    exact ⟨(by have := hr name.data.toList.length (by simp [DataW.weights, DataW.weightsEach, Tryz.underlying44]); rw [Array.length_toList] at this; exact Nat.le_trans this hR), (by have := hr who.data.toList.length (by simp [DataW.weights, DataW.weightsEach, Tryz.underlying44]); rw [Array.length_toList] at this; exact Nat.le_trans this hR), Nat.le_trans h1 hR, Nat.le_trans h2 hR, Nat.le_trans h3 hR, Nat.le_trans h4 hR, (by have := hr data.data.toList.length (by simp [DataW.weights, DataW.weightsEach, Tryz.underlying44]); rw [Array.length_toList] at this; exact Nat.le_trans this hR)⟩
set_option maxRecDepth 100000 in
/-- an argument that is a step -/
theorem arg_stepM {H : Type} {enc : TypeId × Value → H} {W : World} {base : Nat} {v : Value} {d : DataW H} {ps : List MemPlace} (hval : Value.okWide Tryz.prog W .any base 44 v)
    (h : DataW.Trod enc Tryz.prog W 0 (fun _ => true) true 44 v d ps) : ∃ s : SpM, v = .agg s.cells.toArray ∧ s.Ok ∧ ((∀ k ∈ d.weights Tryz.prog 44, k ≤ reachBytes) → s.Rc) := by
  obtain ⟨cs, rfl, hsz⟩ := okWide_struct Tryz.underlying44 hval
  obtain ⟨fuel, hf⟩ := h
  obtain ⟨s, hs, hk, hw⟩ := trod_stepM hf
  refine ⟨s, ?_, hk, hw⟩
  simp only [Value.cells] at hs
  rw [← hs]
def SpM.zero : SpM := ⟨0, 0, .empty, .empty, 0, 0, 0, 0, 0, .empty, St.none⟩
set_option maxRecDepth 100000 in
/-- an argument that is a script -/
theorem arg_stepsM {H : Type} {enc : TypeId × Value → H} {W : World} {base : Nat} {v : Value} {d : DataW H} {ps : List MemPlace} (hval : Value.okWide Tryz.prog W .any base 23 v)
    (h : DataW.Trod enc Tryz.prog W 0 (fun _ => true) true 23 v d ps) : ∃ l : List SpM, RecsAt SpM.cells 23 W (fun _ => True) v l ∧ (∀ s ∈ l, s.Ok) ∧
      ((∀ k ∈ d.weights Tryz.prog 23, k ≤ reachBytes) → l.length ≤ 140737488355328 ∧ ∀ s ∈ l, s.Rc) := by
  obtain ⟨a0, len, cap, rfl⟩ := okWide_slice Tryz.underlying23 hval
  obtain ⟨fuel, hf⟩ := h
  rcases Go.Deep.open_slice Tryz.underlying23 hf with ⟨hcs, hx⟩ | ⟨a, len', cap', m, n, D, Pl, hcs, _, hl, hm, hmm, hx, hi⟩
  · simp only [Value.cells, List.cons.injEq, and_true] at hcs
    injection hcs with e1 e2 e3
    exact ⟨[], .inl ⟨rfl, a0, cap, by rw [e2]⟩, (fun s hs => by cases hs), fun _ => ⟨Nat.zero_le _, fun s hs => by cases hs⟩⟩
  · simp only [Value.cells, List.cons.injEq, and_true] at hcs
    injection hcs with e1 e2 e3
    subst e1 e2 e3
    simp only [if_true] at hmm
    subst hmm
    simp only [Prod.mk.injEq] at hx
    obtain ⟨rfl, _⟩ := hx
    rw [show Tryz.prog.cellsOf 44 = 23 from by kernel_rfl] at hi
    have hex : ∀ i, ∃ s : SpM, i < len → (∀ j, j < 23 → W.cell? ((a.add (i * 23)).add j) = s.cells[j]?) ∧ s.Ok ∧ ((∀ k ∈ (D i).weights Tryz.prog 44, k ≤ reachBytes) → s.Rc) := by
      intro i
      by_cases h : i < len
      · obtain ⟨cs', h1, h2⟩ := hi i (by omega)
        obtain ⟨s, rfl, hk, hw⟩ := trod_stepM h2
        exact ⟨s, fun _ => ⟨(World.cells?_some h1).2.2, hk, hw⟩⟩
      · exact ⟨SpM.zero, fun x => absurd x h⟩
    obtain ⟨S, hS'⟩ : ∃ S : Nat → SpM, ∀ i, i < len → (∀ j, j < 23 → W.cell? ((a.add (i * 23)).add j) = (S i).cells[j]?) ∧ (S i).Ok ∧ ((∀ k ∈ (D i).weights Tryz.prog 44, k ≤ reachBytes) → (S i).Rc) := ⟨fun i => (hex i).choose, fun i hi => (hex i).choose_spec hi⟩
    have hlen : ((List.range len).map S).length = len := by simp
    refine ⟨(List.range len).map S, ?_, ?_, fun hw => ⟨?_, ?_⟩⟩
    · by_cases h0 : len = 0
      · exact .inl ⟨by rw [h0]; rfl, _, _, by rw [h0]⟩
      · have hc0 := (hS' 0 (by omega)).1 0 (by omega)
        have ha : a = ⟨a.block, a.off, none⟩ := by
          have h3 := addr_form (v := .int .i64 (S 0).dof) hc0
          rw [Nat.zero_mul] at h3
          obtain ⟨b, o, sp⟩ := a
          cases sp with
          | none => rfl
          | some _ => simp [Addr.add] at h3
        have hadd : ∀ x y, (a.add x).add y = ⟨a.block, a.off + x + y, none⟩ := fun x y => by rw [ha, add_plain, add_plain]
        rw [hadd] at hc0
        refine .inr ⟨a.block, a.off, m, by rw [hlen, ← ha], trivial, World.block_lt_of_cell? W ⟨a.block, a.off + 0 * 23 + 0, none⟩ (u := .int .i64 (S 0).dof) hc0, by rw [hlen]; exact hl, fun j s hj i u hu => ?_⟩
        rw [List.getElem?_map] at hj
        have hjl : j < len := by
          rcases Nat.lt_or_ge j len with g | g
          · exact g
          · rw [List.getElem?_eq_none (by rw [List.length_range]; exact g)] at hj; cases hj
        rw [List.getElem?_range hjl] at hj
        injection hj with hj
        subst hj
        have hi13 : i < 23 := (List.getElem?_eq_some_iff.1 hu).1
        have := (hS' j hjl).1 i hi13
        rw [hadd] at this
        exact this.trans hu
    · intro s hs
      obtain ⟨i, hi2, rfl⟩ := List.mem_map.1 hs
      exact (hS' i (List.mem_range.1 hi2)).2.1
    · rw [hlen]
      have := hw ((len + (m - len)) * Tryz.prog.bytesOf 44) (by simp [DataW.weights, Tryz.underlying23])
      have h0 : 0 < Tryz.prog.bytesOf 44 := of_decide_eq_true (by kernel_rfl)
      have h1 : len + (m - len) ≤ (len + (m - len)) * Tryz.prog.bytesOf 44 := Nat.le_mul_of_pos_right _ h0
      have hR : reachBytes ≤ 140737488355328 := by decide
      omega
    · intro s hs
      obtain ⟨i, hi2, rfl⟩ := List.mem_map.1 hs
      refine (hS' i (List.mem_range.1 hi2)).2.2 fun k hk => hw k ?_
      simp only [DataW.weights, Tryz.underlying23, List.mem_cons, List.mem_append]
      exact Or.inr (Or.inl (weightsAll_mem (List.mem_map.2 ⟨i, hi2, rfl⟩) hk))
end Go.Proofs.YtkcnbbjmkkaolaaGreatDoor
