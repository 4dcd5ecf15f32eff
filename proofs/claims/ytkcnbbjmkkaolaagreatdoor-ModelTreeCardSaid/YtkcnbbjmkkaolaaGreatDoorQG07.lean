/- The package's tree in memory: its map, its nodes, their kids' rows.
   A range over an iterator that writes a variable of its own between two rounds: the statement's law, for bodies that go on or return.
   A range over an iterator that reads memory which the body leaves alone: the statement's law, for bodies that go on or return.
   The package's tree: get, kids, and the iterator over a directory's kids.
   In a round of a range over a function: a region that draws its order, by the plain words.
   The package's tree: count, kid.
   The package's tree: Walk's questions. -/
import Derived.Test.YtkcnbbjmkkaolaaGreatDoorQG06
import Derived.Test.YtkcnbbjmkkaolaaGreatDoorQG04
import Derived.Test.YtkcnbbjmkkaolaaGreatDoorQG00
import Derived.RangeFuncBox
import Derived.Maps.OwnIn
import Derived.RangeFuncNested
import Derived.RangeFuncBound
import Derived.RangeFuncCalls
import Derived.RangeFuncLeaves
import Derived.RangeFuncFrom
import Derived.Shelf.Abstract
import Derived.Shelf.RegionOpen
import Derived.OwnWalkIn
import Derived.TacticsInMore
import Derived.LoopNIn
import Derived.LoopIn
import Derived.Sort.QuietIn
import Derived.OrdersIn
set_option linter.unusedVariables false
set_option linter.unusedSimpArgs false
namespace Go.Proofs.YtkcnbbjmkkaolaaGreatDoor
open Go.RowKit

/-- what a block is to a tree -/
inductive Role where
  | none
  | obj
  | map
  | node (p : Nat)
  | row (p : Nat)
/-- what the map has -/
def fN (L : List Nd) (am : Nat → Nat) (p : Nat) : Option Value := (look L p).map fun _ => .pointer (some ⟨am p, 0, none⟩)
abbrev MapN (w : World) (mb n : Nat) (L : List Nd) (am : Nat → Nat) : Prop := MapS Tryz.prog 33 encU64 w mb n (fN L am) L.length
structure PTreeP (w : World) (ρ : Nat → Role) (b mb cnt : Nat) (T : Tr) (am : Nat → Nat) (vk : Nat → Value) : Prop where
  obj : w.heap[b]? = some (.cells #[.map (some mb), .int .u64 T.last] 81 (0, 0))
  map : MapN w mb cnt T.L am
  node : ∀ n ∈ T.L, w.heap[am n.path]? = some (pnO n (vk n.path))
  kid : ∀ n ∈ T.L, OwnA w 0 1 (vk n.path) n.kids.length (kidsV n.kids)
  rb : ρ b = .obj
  rm : ρ mb = .map
  rn : ∀ n ∈ T.L, ρ (am n.path) = .node n.path
  rk : ∀ n ∈ T.L, ∀ k, some k = (vk n.path).ownBlock → ρ k = .row n.path
  lt : ∀ k, ρ k ≠ .none → k < w.heap.size
def Foot (ρ : Nat → Role) (k : Nat) : Prop := ρ k ≠ .none
section
variable {w w' : World} {ρ : Nat → Role} {b mb cnt : Nat} {T : Tr} {am : Nat → Nat} {vk : Nat → Value}
theorem PTreeP.mod {S : Nat → Prop} (h : PTreeP w ρ b mb cnt T am vk) (hm : Mod S w w') (hS : ∀ k, S k → ρ k = .none) : PTreeP w' ρ b mb cnt T am vk where
  obj := (hm.block b (lt_of h.obj) (fun x => by have := hS b x; rw [h.rb] at this; cases this)).trans h.obj
  map := h.map.mod hm (fun x => by have := hS mb x; rw [h.rm] at this; cases this)
  node := fun n hn => (hm.block _ (lt_of (h.node n hn)) (fun x => by have := hS _ x; rw [h.rn n hn] at this; cases this)).trans (h.node n hn)
  kid := fun n hn => (h.kid n hn).modB hm fun k hk x => by have := hS _ x; rw [h.rk n hn k hk] at this; cases this
  rb := h.rb
  rm := h.rm
  rn := h.rn
  rk := h.rk
  lt := fun k hk => Nat.lt_of_lt_of_le (h.lt k hk) hm.size
theorem PTreeP.mod0 (h : PTreeP w ρ b mb cnt T am vk) (hm : Mod (fun _ => False) w w') : PTreeP w' ρ b mb cnt T am vk := h.mod hm fun _ x => x.elim
theorem PTreeP.mono {cnt' : Nat} (h : PTreeP w ρ b mb cnt T am vk) (hc : cnt ≤ cnt') : PTreeP w ρ b mb cnt' T am vk := by
  obtain ⟨h1, ⟨D, ho, hd⟩, h3, h4, h5, h6, h7, h8, h9⟩ := h
  exact ⟨h1, ⟨D, ho.mono hc, hd⟩, h3, h4, h5, h6, h7, h8, h9⟩
theorem PTreeP.c0 (h : PTreeP w ρ b mb cnt T am vk) : w.cell? ⟨b, 0, none⟩ = some (.map (some mb)) := (cell_of h.obj 0).trans rfl
theorem PTreeP.c1 (h : PTreeP w ρ b mb cnt T am vk) : w.cell? ⟨b, 1, none⟩ = some (.int .u64 T.last) := (cell_of h.obj 1).trans rfl
theorem upd_mem' {L : List Nd} {p : Nat} {f : Nd → Nd} {n : Nd} (h : n ∈ updN L p f) : ∃ m ∈ L, n = if m.path = p then f m else m := by
  unfold updN at h
  obtain ⟨m, hm, e⟩ := List.mem_map.1 h
  exact ⟨m, hm, e.symm⟩
/-- a node changes: its cells, not its path, nor its kids -/
theorem PTreeP.setN (h : PTreeP w ρ b mb cnt T am vk) (hw : T.L.Pairwise fun a b => a.path < b.path) {p : Nat} {f : Nd → Nd} (hf : ∀ n, (f n).path = n.path) (hk : ∀ n, (f n).kids = n.kids) {n : Nd} (hn : look T.L p = some n) (hm : Mod (· = am p) w w') (hv : w'.heap[am p]? = some (pnO (f n) (vk p))) :
    PTreeP w' ρ b mb cnt { T with L := updN T.L p f } am vk ∧ Mod (Foot ρ) w w' := by
  obtain ⟨hnm, hnp⟩ := look_some hn
  have hr : ρ (am p) = .node p := by rw [← hnp]; exact h.rn n hnm
  have hmem : ∀ {m : Nd}, m ∈ updN T.L p f → ∃ m' ∈ T.L, m.path = m'.path ∧ m.kids = m'.kids ∧ (m'.path ≠ p → m = m') := fun {m} hm' => by
    unfold updN at hm'
    obtain ⟨m', h1, rfl⟩ := List.mem_map.1 hm'
    refine ⟨m', h1, ?_, ?_, fun e => if_neg e⟩
    · split; exact hf m'; rfl
    · split; exact hk m'; rfl
  refine ⟨⟨?_, ?_, fun m hm' => ?_, fun m hm' => ?_, h.rb, h.rm, fun m hm' => ?_, fun m hm' => ?_, fun k hk => Nat.lt_of_lt_of_le (h.lt k hk) hm.size⟩, hm.mono fun k _ e => by show ρ k ≠ .none; rw [e, hr]; exact fun x => by cases x⟩
  · exact (hm.block b (lt_of h.obj) (fun e => by rw [← e, h.rb] at hr; cases hr)).trans h.obj
  · refine (h.map.mod hm (fun e => by rw [← e, h.rm] at hr; cases hr)).congr (fun q => ?_) (by show (updN T.L p f).length = _; unfold updN; rw [List.length_map])
    unfold fN
    show Option.map _ (look (updN T.L p f) q) = _
    rw [upd_get hf]
    cases look T.L q <;> rfl
  · have hm2 : m ∈ updN T.L p f := hm'
    unfold updN at hm2
    obtain ⟨m', h1, rfl⟩ := List.mem_map.1 hm2
    by_cases e : m'.path = p
    · rw [if_pos e]
      have e1 : m' = n := by
        have h6 := look_of hw h1
        rw [e, hn] at h6
        injection h6 with h6
        exact h6.symm
      subst e1
      rw [hf, e]
      exact hv
    · rw [if_neg e]
      exact (hm.block _ (lt_of (h.node m' h1)) (fun x => by rw [← x, h.rn m' h1] at hr; injection hr with hr; exact e hr)).trans (h.node m' h1)
  · obtain ⟨m', h1, e1, e2, _⟩ := hmem hm'
    rw [e1, e2]
    exact (h.kid m' h1).modB hm fun k hk x => by rw [← x, h.rk m' h1 k hk] at hr; cases hr
  · obtain ⟨m', h1, e1, _⟩ := hmem hm'
    rw [e1]; exact h.rn m' h1
  · obtain ⟨m', h1, e1, _⟩ := hmem hm'
    rw [e1]; exact h.rk m' h1
theorem PTreeP.setLast (h : PTreeP w ρ b mb cnt T am vk) (x : Nat) : PTreeP (w.setCell ⟨b, 1, none⟩ (.int .u64 x)) ρ b mb cnt { T with last := x } am vk ∧ Mod (Foot ρ) w (w.setCell ⟨b, 1, none⟩ (.int .u64 x)) := by
  have hm : Mod (· = b) w (w.setCell ⟨b, 1, none⟩ (.int .u64 x)) := Mod.set1 w b 1 _
  refine ⟨⟨heap_set h.obj 1 _, h.map.mod hm (fun e => ?_), fun n hn => (hm.block _ (lt_of (h.node n hn)) (fun e => ?_)).trans (h.node n hn), fun n hn => (h.kid n hn).modB hm fun k hk e => ?_, h.rb, h.rm, h.rn, h.rk, fun k hk => Nat.lt_of_lt_of_le (h.lt k hk) hm.size⟩, hm.mono fun k _ e => by show ρ k ≠ .none; rw [e, h.rb]; exact fun x => by cases x⟩
  · have := h.rb; rw [← e, h.rm] at this; cases this
  · have := h.rb; rw [← e, h.rn n hn] at this; cases this
  · have := h.rb; rw [← e, h.rk n hn k hk] at this; cases this
def setR (ρ : Nat → Role) (k0 : Option Nat) (r : Role) (k : Nat) : Role := if some k = k0 then r else ρ k
def setA (am : Nat → Nat) (p a q : Nat) : Nat := if q = p then a else am q
def setW (vk : Nat → Value) (p : Nat) (v : Value) (q : Nat) : Value := if q = p then v else vk q
/-- what was added lies behind what was there -/
theorem foot_grows {k0 : Option Nat} {r : Role} (h : ∀ k, some k = k0 → Foot ρ k ∨ w.heap.size ≤ k) : GrowsF w (Foot ρ) (Foot (setR ρ k0 r)) := fun k hk => by
  unfold Foot setR at hk
  by_cases e : some k = k0
  · exact h k e
  · rw [if_neg e] at hk; exact .inl hk
/-- a file's kids lie in another row -/
theorem PTreeP.setKids (h : PTreeP w ρ b mb cnt T am vk) (hw : T.L.Pairwise fun a b => a.path < b.path) {p : Nat} {n : Nd} (hn : look T.L p = some n) {v' : Value} {ks : List Nat} {w2 : World} (hm : Mod (fun k => some k = (vk p).ownBlock) w w2)
    (ho : OwnA w2 0 1 v' ks.length (kidsV ks)) (hb : v'.ownBlock = (vk p).ownBlock ∨ ∃ s, v'.ownBlock = some s ∧ w.heap.size ≤ s) :
    PTreeP (w2.setCell ⟨am p, 15, none⟩ v') (setR ρ v'.ownBlock (.row p)) b mb cnt { T with L := updN T.L p fun n => { n with kids := ks } } am (setW vk p v') ∧ Mod (Foot ρ) w (w2.setCell ⟨am p, 15, none⟩ v') ∧ GrowsF w (Foot ρ) (Foot (setR ρ v'.ownBlock (.row p))) := by
  obtain ⟨hnm, hnp⟩ := look_some hn
  have hrp : ρ (am p) = .node p := by rw [← hnp]; exact h.rn n hnm
  have hrk : ∀ k, some k = (vk p).ownBlock → ρ k = .row p := by rw [← hnp]; exact h.rk n hnm
  have hv : ∀ k, some k = v'.ownBlock → (ρ k = .row p ∨ w.heap.size ≤ k) := fun k hk => by
    rcases hb with e | ⟨s, e, hs⟩
    · exact .inl (hrk k (hk.trans e))
    · rw [e] at hk; injection hk with hk; exact .inr (by omega)
  have hold : ∀ k, k < w.heap.size → ρ k ≠ .row p → some k ≠ v'.ownBlock := fun k hk hr e => by
    rcases hv k e with x | x
    · exact hr x
    · omega
  have hR : ∀ k, k < w.heap.size → ρ k ≠ .row p → setR ρ v'.ownBlock (.row p) k = ρ k := fun k hk hr => by unfold setR; rw [if_neg (hold k hk hr)]
  have hR2 : ∀ k, ρ k = .row p → setR ρ v'.ownBlock (.row p) k = .row p := fun k hk => by unfold setR; split; rfl; exact hk
  have hms : Mod (· = am p) w2 (w2.setCell ⟨am p, 15, none⟩ v') := Mod.set1 w2 (am p) 15 _
  have hMF : Mod (Foot ρ) w (w2.setCell ⟨am p, 15, none⟩ v') := (hm.mono fun k _ e => by show ρ k ≠ .none; rw [hrk k e]; exact fun x => by cases x).trans (hms.mono fun k _ e => by show ρ k ≠ .none; rw [e, hrp]; exact fun x => by cases x)
  have hkeep : ∀ k, k < w.heap.size → ρ k ≠ .row p → k ≠ am p → (w2.setCell ⟨am p, 15, none⟩ v').heap[k]? = w.heap[k]? := fun k hk h1 h2 => (hms.block k (Nat.lt_of_lt_of_le hk hm.size) h2).trans (hm.block k hk fun e => h1 (hrk k e))
  have hbl := lt_of h.obj
  have hml := h.map.lt
  have hal : am p < w.heap.size := by rw [← hnp]; exact lt_of (h.node n hnm)
  refine ⟨⟨?_, ?_, fun m hm' => ?_, fun m hm' => ?_, ?_, ?_, fun m hm' => ?_, fun m hm' k hk => ?_, fun k hk => ?_⟩, hMF, foot_grows fun k hk => ?_⟩
  · exact (hkeep b hbl (by rw [h.rb]; exact fun x => by cases x) (fun e => by rw [← e, h.rb] at hrp; cases hrp)).trans h.obj
  · refine (h.map.same (hkeep mb hml (by rw [h.rm]; exact fun x => by cases x) (fun e => by rw [← e, h.rm] at hrp; cases hrp))).congr (fun q => ?_) (by show (updN T.L p _).length = _; unfold updN; rw [List.length_map])
    unfold fN
    show Option.map _ (look (updN T.L p _) q) = _
    rw [upd_get (f := fun n : Nd => { n with kids := ks }) (fun _ => rfl)]
    cases look T.L q <;> rfl
  · have hm2 : m ∈ updN T.L p fun n => { n with kids := ks } := hm'
    unfold updN at hm2
    obtain ⟨m', h1, rfl⟩ := List.mem_map.1 hm2
    by_cases e : m'.path = p
    · rw [if_pos e]
      have e1 : m' = n := by
        have h6 := look_of hw h1
        rw [e, hn] at h6
        injection h6 with h6
        exact h6.symm
      subst e1
      show (w2.setCell _ _).heap[am m'.path]? = some (pnO { m' with kids := ks } (setW vk p v' m'.path))
      have h3 : w2.heap[am p]? = some (pnO m' (vk p)) := by
        rw [hm.block (am p) hal (fun x => by rw [hrk _ x] at hrp; cases hrp), ← hnp]
        exact h.node m' h1
      have h4 : (w2.setCell ⟨am p, 15, none⟩ v').heap[am p]? = some (pnO { m' with kids := ks } v') := heap_set h3 15 v'
      rw [show am m'.path = am p from by rw [e], show setW vk p v' m'.path = v' from if_pos e]
      exact h4
    · rw [if_neg e, show setW vk p v' m'.path = vk m'.path from if_neg e]
      refine (hkeep _ (lt_of (h.node m' h1)) (by rw [h.rn m' h1]; exact fun x => by cases x) fun x => ?_).trans (h.node m' h1)
      rw [← x, h.rn m' h1] at hrp
      injection hrp with hrp
      exact e hrp
  · have hm2 : m ∈ updN T.L p fun n => { n with kids := ks } := hm'
    unfold updN at hm2
    obtain ⟨m', h1, rfl⟩ := List.mem_map.1 hm2
    by_cases e : m'.path = p
    · rw [if_pos e]
      show OwnA _ 0 1 (setW vk p v' m'.path) ks.length (kidsV ks)
      rw [e, show setW vk p v' p = v' from if_pos rfl]
      exact ho.modB hms fun k hk x => by
        rcases hv k hk with y | y
        · rw [← x, y] at hrp; cases hrp
        · omega
    · rw [if_neg e, show setW vk p v' m'.path = vk m'.path from if_neg e]
      refine ((h.kid m' h1).modB hm fun k hk x => ?_).modB hms fun k hk x => ?_
      · have h3 := h.rk m' h1 k hk
        rw [hrk k x] at h3
        injection h3 with h3
        exact e h3.symm
      · have h3 := h.rk m' h1 k hk
        rw [x, hrp] at h3
        cases h3
  · rw [hR b hbl (by rw [h.rb]; exact fun x => by cases x)]; exact h.rb
  · rw [hR mb hml (by rw [h.rm]; exact fun x => by cases x)]; exact h.rm
  · obtain ⟨m', h1, rfl⟩ := upd_mem' hm'
    have e1 : (if m'.path = p then { m' with kids := ks } else m').path = m'.path := by split <;> rfl
    rw [e1, hR _ (lt_of (h.node m' h1)) (by rw [h.rn m' h1]; exact fun x => by cases x)]
    exact h.rn m' h1
  · obtain ⟨m', h1, rfl⟩ := upd_mem' hm'
    have e1 : (if m'.path = p then { m' with kids := ks } else m').path = m'.path := by split <;> rfl
    rw [e1] at hk ⊢
    by_cases e : m'.path = p
    · rw [e, show setW vk p v' p = v' from if_pos rfl] at hk
      rw [e]
      unfold setR; rw [if_pos hk]
    · rw [show setW vk p v' m'.path = vk m'.path from if_neg e] at hk
      have h3 := h.rk m' h1 k hk
      rw [hR k ((h.kid m' h1).lt k hk).2 (by rw [h3]; exact fun x => by injection x with x; exact e x)]
      exact h3
  · by_cases e : some k = v'.ownBlock
    · exact Nat.lt_of_lt_of_le (ho.lt k e).2 hms.size
    · unfold setR at hk
      rw [if_neg e] at hk
      exact Nat.lt_of_lt_of_le (h.lt k hk) hMF.size
  · rcases hv k hk with x | x
    · exact .inl (by show ρ k ≠ .none; rw [x]; exact fun y => by cases y)
    · exact .inr x
/-- one place of a file's kids is set -/
theorem PTreeP.setKid (h : PTreeP w ρ b mb cnt T am vk) (hw : T.L.Pairwise fun a b => a.path < b.path) {p : Nat} {n : Nd} (hn : look T.L p = some n) {kg kc j x : Nat} (hv : vk p = .slice (some ⟨kg, 0, none⟩) n.kids.length kc) (hj : j < n.kids.length) :
    PTreeP (w.setCell ⟨kg, j, none⟩ (.int .u64 x)) ρ b mb cnt { T with L := updN T.L p fun n => { n with kids := n.kids.set j x } } am vk ∧ Mod (Foot ρ) w (w.setCell ⟨kg, j, none⟩ (.int .u64 x)) := by
  obtain ⟨hnm, hnp⟩ := look_some hn
  have hrk : ρ kg = .row p := by have := h.rk n hnm kg; rw [hnp, hv] at this; exact this rfl
  have hms : Mod (· = kg) w (w.setCell ⟨kg, j, none⟩ (.int .u64 x)) := Mod.set1 w kg _ _
  refine ⟨⟨?_, ?_, fun m hm' => ?_, fun m hm' => ?_, h.rb, h.rm, fun m hm' => ?_, fun m hm' => ?_, fun k hk => Nat.lt_of_lt_of_le (h.lt k hk) hms.size⟩, hms.mono fun k _ e => by show ρ k ≠ .none; rw [e, hrk]; exact fun x => by cases x⟩
  · exact (hms.block b (lt_of h.obj) (fun e => by rw [← e, h.rb] at hrk; cases hrk)).trans h.obj
  · refine (h.map.mod hms (fun e => by rw [← e, h.rm] at hrk; cases hrk)).congr (fun q => ?_) (by show (updN T.L p _).length = _; unfold updN; rw [List.length_map])
    unfold fN
    show Option.map _ (look (updN T.L p _) q) = _
    rw [upd_get (f := fun n : Nd => { n with kids := n.kids.set j x }) (fun _ => rfl)]
    cases look T.L q <;> rfl
  · obtain ⟨m', h1, rfl⟩ := upd_mem' hm'
    have e1 : (if m'.path = p then { m' with kids := m'.kids.set j x } else m').path = m'.path := by split <;> rfl
    have e2 : pnO (if m'.path = p then { m' with kids := m'.kids.set j x } else m') (vk m'.path) = pnO m' (vk m'.path) := by split <;> rfl
    rw [e1, e2]
    exact (hms.block _ (lt_of (h.node m' h1)) (fun x => by rw [← x, h.rn m' h1] at hrk; cases hrk)).trans (h.node m' h1)
  · obtain ⟨m', h1, rfl⟩ := upd_mem' hm'
    by_cases e : m'.path = p
    · rw [if_pos e]
      have e1 : m' = n := by
        have h6 := look_of hw h1
        rw [e, hn] at h6
        injection h6 with h6
        exact h6.symm
      subst e1
      show OwnA _ 0 1 (vk m'.path) (m'.kids.set j x).length (kidsV (m'.kids.set j x))
      have ho := h.kid m' h1
      rw [e, hv] at ho ⊢
      rw [List.length_set, kidsV_set]
      exact ho.setJ (by omega)
    · rw [if_neg e]
      exact (h.kid m' h1).modB hms fun k hk y => by
        have h3 := h.rk m' h1 k hk
        rw [y, hrk] at h3
        injection h3 with h3
        exact e h3.symm
  · obtain ⟨m', h1, rfl⟩ := upd_mem' hm'
    have e1 : (if m'.path = p then { m' with kids := m'.kids.set j x } else m').path = m'.path := by split <;> rfl
    rw [e1]; exact h.rn m' h1
  · obtain ⟨m', h1, rfl⟩ := upd_mem' hm'
    have e1 : (if m'.path = p then { m' with kids := m'.kids.set j x } else m').path = m'.path := by split <;> rfl
    rw [e1]; exact h.rk m' h1
end
end Go.Proofs.YtkcnbbjmkkaolaaGreatDoor
namespace Go.Proofs.YtkcnbbjmkkaolaaGreatDoor
open Go.RowKit

/-- the loop's two blocks, from B on -/
def LoopAt (B : Nat) (R : Loop) (W : World) : Prop := W.heap[B + 1]? = some (.loop R) ∧ W.heap[B]? = some (.deferred (some []))
theorem LoopAt.keep {B : Nat} {R : Loop} {A C : World} (h : LoopAt B R A) (hk : ∀ k, k = B ∨ k = B + 1 → C.heap[k]? = A.heap[k]?) : LoopAt B R C :=
  ⟨(hk _ (Or.inr rfl)).trans h.1, (hk _ (Or.inl rfl)).trans h.2⟩
theorem LoopAt.mod {B : Nat} {R : Loop} {A C : World} (h : LoopAt B R A) (hm : Mod (fun _ => False) A C) : LoopAt B R C :=
  h.keep fun k hk => hm.block k (by rcases hk with rfl | rfl; exact lt_of h.2; exact lt_of h.1) (fun x => x)
theorem LoopAt.turn {B : Nat} {R R' : Loop} {A : World} (h : LoopAt B R A) : LoopAt B R' (A.putObj (B + 1) (.loop R')) :=
  ⟨World.putObj_heap_same (lt_of h.1), (World.putObj_heap_other (by omega)).trans h.2⟩
end Go.Proofs.YtkcnbbjmkkaolaaGreatDoor
namespace Go.Proofs.YtkcnbbjmkkaolaaGreatDoor
open Go.RowKit

/-- what abides all that leaves old blocks alone -/
def BearsM {β : Type} (J : β → World → Prop) : Prop := ∀ s A B, J s A → Mod (fun _ => False) A B → J s B
/-- the contract of such an iterator: o is what it reads, in whatever world -/
def SeqM {α : Type} (n : Nat) (P : Program) (g : Nat) (lb : Array Value) (encs : α → Array Value) (o : World → Prop) (S Sp : List α → Prop) : Prop :=
  ∀ (l : Nat) (J Jx : List α → World → Prop) (W : World), o W → BearsM J → BearsM Jx →
    (∀ pre x W1, J pre W1 → o W1 → Sp (pre ++ [x]) → YieldAt Fence.wide (n - 1) P l (encs x) W1 fun e W' =>
      (e = .returned (.bool true) ∧ J (pre ++ [x]) W' ∧ o W') ∨ (e = .returned (.bool false) ∧ Jx (pre ++ [x]) W')) →
    J [] W →
    CallsIn Fence.wide n P g (#[.func (.yield l) #[] #[]] ++ lb) W fun e W' => (∃ v, e = .returned v) ∧ ((∃ xs, S xs ∧ J xs W') ∨ (∃ pre, Sp pre ∧ Jx pre W'))
/-- what a caller may say: it abides the loop's own book-keeping -/
structure HoldsM {β : Type} (B : Nat) (I : β → World → Prop) : Prop where
  mod : ∀ s A C, I s A → Mod (fun _ => False) A C → I s C
  put : ∀ s A R R', I s A → A.heap[B + 1]? = some (.loop R) → I s (A.putObj (B + 1) (.loop R'))
/-- how the body may be left -/
def BodyPostM {α : Type} (B : Nat) (o : World → Prop) (I Ix : List α → World → Prop) (xs : List α) (W : World) : Exit → Act → World → Prop
  | .normal, _, W' => o W' ∧ (∀ k, k = B ∨ k = B + 1 → W'.heap[k]? = W.heap[k]?) ∧ I xs W'
  | .ret, _, W' => (∀ k, k = B ∨ k = B + 1 → W'.heap[k]? = W.heap[k]?) ∧ Ix xs W'
  | _, _, _ => False

theorem wpIn_rangeM {α : Type} {n : Nat} {P : Program} {g : Operand} {ps : Array Tmp} {assign body : Code} {Q : Exit → Act → World → Prop} {a : Act} {w : World} (h1 : 1 ≤ n) {gf : Nat} {lb : Array Value}
    (hg : a.eval g = .func (.func gf) #[] lb) (eg : ∀ args w, (callFunc gf args).run P w = .ok (.enter gf args) w) {encs : α → Array Value} {o : World → Prop} {S Sp : List α → Prop}
    (hseq : SeqM (n - 1) P gf lb encs o S Sp) (hps : ∀ x, (encs x).size = ps.size)
    (I Ix : List α → World → Prop) (hI : HoldsM w.heap.size I) (hIx : HoldsM w.heap.size Ix) (ho : HoldsM w.heap.size (fun (_ : Unit) => o)) (ho0 : o w) (h0 : I [] w) (A1 : α → Act → World → Prop) (hA1 : ∀ x a' A R R', A1 x a' A → A.heap[w.heap.size + 1]? = some (.loop R) → A1 x a' (A.putObj (w.heap.size + 1) (.loop R')))
    (hround : ∀ (l : Nat) (pre : List α) (x : α) (W : World) (K : Act → World → Prop), I pre W → o W → Sp (pre ++ [x]) → (∀ k, k = w.heap.size ∨ k = w.heap.size + 1 → ∃ ob, W.heap[k]? = some ob ∧ ob.isCells = false) →
      (∀ a' W2, Mod (fun _ => False) W W2 → A1 x a' W2 → K a' W2) →
      assign.wpIn (Fence.wide.inRound l) (n - 1 - 1) P (Exit.then K (fun _ _ _ => False)) { tmps := (ps.zip (encs x)).foldl (fun t (p, v) => t.setIfInBounds p v) a.tmps, defers := [] } W)
    (hbody : ∀ (l : Nat) (pre : List α) (x : α) (a' : Act) (W : World), I pre W → o W → Sp (pre ++ [x]) → A1 x a' W → (∀ k, k = w.heap.size ∨ k = w.heap.size + 1 → ∃ ob, W.heap[k]? = some ob ∧ ob.isCells = false) →
      body.wpIn (Fence.wide.inRound l) (n - 1 - 1) P (BodyPostM w.heap.size o I Ix (pre ++ [x]) W) a' W)
    (hdone : ∀ (xs : List α) (W : World), S xs → I xs W → W.heap[w.heap.size]? = some (.deferred (some [])) → Q .normal { a with defers := { target := .collected w.heap.size, args := #[] } :: a.defers } W)
    (hstop : ∀ (pre : List α) (W : World), Sp pre → Ix pre W → W.heap[w.heap.size]? = some (.deferred (some [])) → Q .ret { a with defers := { target := .collected w.heap.size, args := #[] } :: a.defers } W) :
    (Code.rangeFunc g ps assign body).wpIn Fence.wide n P Q a w := by
  refine wpIn_rangeFunc ?_
  intro fn hfn
  obtain ⟨R, hR⟩ : ∃ R : LoopState → Option Code → Loop, R = fun st pe => { state := st, pending := pe, fn, tmps := a.tmps, params := ps, assign, body, defers := w.heap.size } := ⟨_, rfl⟩
  obtain ⟨W1, hW1⟩ : ∃ W1, (w.alloc (.deferred (some []))).alloc (.loop (R .ready none)) = W1 := ⟨_, rfl⟩
  have hm1 : Mod (fun _ => False) w W1 := by subst hW1; exact ((Mod.refl _ w).alloc _).alloc _
  have hL1 : LoopAt w.heap.size (R .ready none) W1 := by
    subst hW1
    exact ⟨by have := new_at (w.alloc (.deferred (some []))) (.loop (R .ready none)); rwa [World.size_alloc] at this, alloc_keep (new_at _ _)⟩
  refine ⟨w.heap.size + 1, [{ target := .collected w.heap.size, args := #[] }], W1, { target := .fn (.func gf) lb, args := #[.func (.yield (w.heap.size + 1)) #[] #[]] }, W1, gf,
    #[.func (.yield (w.heap.size + 1)) #[] #[]] ++ lb, W1, ?_, ?_, ?_, ?_, fun _ => h1, ?_⟩
  · rw [← hW1, hR]; exact run_enterLoop_outer _ _ _ _ _
  · simp only [resolve, hg]
    simp [go_sem]
  · intro _ _; trivial
  · simp [invoke, go_sem, eg]
  refine (hseq (w.heap.size + 1) (fun pre W => I pre W ∧ LoopAt w.heap.size (R .ready none) W) (fun pre W => Ix pre W ∧ LoopAt w.heap.size (R .done (some .ret)) W) W1 (ho.mod () _ _ ho0 hm1)
    (fun s A C h hm => ⟨hI.mod s A C h.1 hm, h.2.mod hm⟩)
    (fun s A C h hm => ⟨hIx.mod s A C h.1 hm, h.2.mod hm⟩) ?_ ⟨hI.mod _ _ _ h0 hm1, hL1⟩).mono ?_
  · rintro pre x W ⟨hi, hl⟩ hoW hsp
    have hy := run_yield (P := P) (args := encs x) hl.1 (by rw [hR]; exact hps x)
    have hnc : ∀ U, LoopAt w.heap.size (R .ready none) U → ∀ k, k = w.heap.size ∨ k = w.heap.size + 1 → ∃ ob, U.heap[k]? = some ob ∧ ob.isCells = false := by
      rintro U h k (rfl | rfl)
      · exact ⟨_, h.2, rfl⟩
      · exact ⟨_, h.1, rfl⟩
    rw [hR] at hy
    refine ⟨fn, _, assign, body, hy, roundIn_of_wpIn hfn (hround _ pre x W _ hi hoW hsp (hnc W hl) fun a' W2 hm2 ha => ?_)⟩
    have hl2 := hl.mod hm2
    have hb := run_beginRound (P := P) hl2.1 (by rw [hR])
    refine ⟨_, hb, ?_⟩
    have hl3 : LoopAt w.heap.size { R .ready none with state := .busy } (W2.putObj (w.heap.size + 1) (.loop { R .ready none with state := .busy })) := hl2.turn
    refine wpIn_mono (hbody _ pre x a' _ (hI.put _ _ _ _ (hI.mod _ _ _ hi hm2) hl2.1) (ho.put () _ _ _ (ho.mod () _ _ hoW hm2) hl2.1) hsp (hA1 _ _ _ _ _ ha hl2.1) ?_) ?_
    · rintro k (rfl | rfl)
      · exact ⟨_, hl3.2, rfl⟩
      · exact ⟨_, hl3.1, rfl⟩
    · rintro e a3 W3 hp
      cases e with
      | normal =>
        obtain ⟨q1, q3, q4⟩ := hp
        have hl4 := hl3.keep q3
        have hr := run_endRound (P := P) none hl4.1
        refine ⟨_, _, hr, .inl ⟨rfl, ⟨hI.put _ _ _ _ q4 hl4.1, ?_⟩, ho.put () _ _ _ q1 hl4.1⟩⟩
        have := hl4.turn (R' := { { R .ready none with state := .busy } with state := .ready, pending := none })
        rw [hR] at this ⊢
        exact this
      | ret =>
        obtain ⟨q3, q4⟩ := hp
        have hl4 := hl3.keep q3
        have hr := run_endRound (P := P) (some .ret) hl4.1
        refine ⟨_, _, hr, .inr ⟨rfl, hIx.put _ _ _ _ q4 hl4.1, ?_⟩⟩
        have := hl4.turn (R' := { { R .ready none with state := .busy } with state := .done, pending := some .ret })
        rw [hR] at this ⊢
        exact this
      | exit id => exact hp.elim
      | goto t => exact hp.elim
      | panic ch => exact hp.elim
      | outgrown => exact hp.elim
  · rintro e W2 ⟨⟨v, rfl⟩, (⟨xs, hS, hi, hl⟩ | ⟨pre, hSp, hi, hl⟩)⟩
    · have he := run_endLoop (P := P) hl.1 (by rw [hR]; simp)
      rw [hR] at he
      exact ⟨none, _, he, hdone xs _ hS (hI.put _ _ _ _ hi hl.1) ((World.putObj_heap_other (by omega)).trans hl.2)⟩
    · have he := run_endLoop (P := P) hl.1 (by rw [hR]; simp)
      rw [hR] at he
      exact ⟨some .ret, _, he, wpIn_ret (hstop pre _ hSp (hIx.put _ _ _ _ hi hl.1) ((World.putObj_heap_other (by omega)).trans hl.2))⟩
end Go.Proofs.YtkcnbbjmkkaolaaGreatDoor
namespace Go.Proofs.YtkcnbbjmkkaolaaGreatDoor
open Go.RowKit Go.Shelf
attribute [local go_sem] Oper.semAt_some

theorem lawM : Maps.Keyed Tryz.prog 33 := Maps.int_keyed Tryz.underlying33
theorem zeroN (w : World) : (zeroValue 75).run Tryz.prog w = .ok (.pointer none) w := by kernel_rfl
def ptrV (L : List Nd) (am : Nat → Nat) (p : Nat) : Value := match look L p with
  | some _ => .pointer (some ⟨am p, 0, none⟩)
  | none => .pointer none
theorem mapN_look {w : World} {mb n : Nat} {L : List Nd} {am : Nat → Nat} (h : MapN w mb n L am) (p : Nat) (hp : p < 18446744073709551616) :
    (Instr.lookup 79 (.map (some mb)) (.int .u64 p) true).run Tryz.prog w = .ok (.tuple #[ptrV L am p, .bool (look L p).isSome]) w := by
  rw [h.mapF.look_ok lawM Tryz.underlying79 (zeroN w) (key_u64 Tryz.underlying33 hp)]
  unfold fN ptrV
  cases look L p <;> rfl
theorem mapN_at {w : World} {mb n : Nat} {L : List Nd} {am : Nat → Nat} (h : MapN w mb n L am) (p : Nat) (hp : p < 18446744073709551616) :
    (Instr.lookup 79 (.map (some mb)) (.int .u64 p) false).run Tryz.prog w = .ok (ptrV L am p) w := by
  rw [h.mapF.look lawM Tryz.underlying79 (zeroN w) (key_u64 Tryz.underlying33 hp)]
  unfold fN ptrV
  cases look L p <;> rfl
theorem eqlM {P : Program} {t k e : TypeId} (h : P.underlying t = some (.map k e)) (m : Option Nat) (w : World) : (binOp .eql t (.map m) (.map none)).run P w = .ok (.bool m.isNone) w := by
  simp only [binOp]
  simp [run_equal_map_nil w t k e m h]
section
variable {w : World} {ρ : Nat → Role} {b mb cnt : Nat} {T : Tr} {am : Nat → Nat} {vk : Nat → Value}
set_option maxRecDepth 100000 in
theorem pget_any (h : PTreeP w ρ b mb cnt T am vk) (p : Nat) (hp : p < 18446744073709551616) :
    Calls Tryz.prog 51 #[.pointer (some ⟨b, 0, none⟩), .int .u64 p] w fun e w' => e = .returned (.tuple #[ptrV T.L am p, .int .i64 (if (look T.L p).isSome = true then 0 else 180)]) ∧ w = w' := by
  have c0 := h.c0
  have hL := mapN_look h.map p hp
  have hq := eqlM (P := Tryz.prog) Tryz.underlying79 (some mb)
  clear h
  cases hl : look T.L p with
  | some n =>
    have e1 : ptrV T.L am p = .pointer (some ⟨am p, 0, none⟩) := by unfold ptrV; rw [hl]
    rw [hl, e1] at hL
    simp only [Option.isSome_some] at hL
    rw [e1]
    clear hl e1
    go_enter Tryz.func51, Tryz.ntmps51
    go_wp2
    go_ret2
    exact ⟨rfl, rfl⟩
  | none =>
    have e1 : ptrV T.L am p = .pointer none := by unfold ptrV; rw [hl]
    rw [hl, e1] at hL
    simp only [Option.isSome_none] at hL
    rw [e1]
    clear hl e1
    go_enter Tryz.func51, Tryz.ntmps51
    go_wp2
    go_ret2
    exact ⟨rfl, rfl⟩
end
set_option maxRecDepth 100000 in
theorem pget_nil (p : Nat) (w : World) :
    Calls Tryz.prog 51 #[.pointer none, .int .u64 p] w fun e w' => e = .returned (.tuple #[.pointer none, .int .i64 1]) ∧ w = w' := by
  go_enter Tryz.func51, Tryz.ntmps51
  go_wp2
  go_ret2
  exact ⟨rfl, rfl⟩
theorem pkids_any (t n : Option Addr) (w : World) : Calls Tryz.prog 76 #[.pointer t, .pointer n] w fun e w' =>
    e = .returned (.func (.func 111) #[] #[.pointer (some ⟨w.heap.size + 1, 0, none⟩), .pointer (some ⟨w.heap.size, 0, none⟩)]) ∧ (w.alloc (.cells #[.pointer t] 26)).alloc (.cells #[.pointer n] 75) = w' := by
  go_enter Tryz.func76, Tryz.ntmps76
  go_wp2
  go_ret
  exact ⟨rfl, rfl⟩
def kidL (l : List Nat) : List Nat := l.filter fun k => decide (k ≠ 0)
theorem kidL_take {l : List Nat} {j : Nat} (h : j < l.length) : kidL (l.take (j + 1)) = kidL (l.take j) ++ if l[j] = 0 then [] else [l[j]] := by
  unfold kidL
  rw [List.take_succ_eq_append_getElem h, List.filter_append]
  congr 1
  by_cases hz : l[j] = 0
  · rw [if_pos hz, List.filter_cons_of_neg (by simp [hz])]; rfl
  · rw [if_neg hz, List.filter_cons_of_pos (by simp [hz])]; rfl
theorem kidL_pre (l : List Nat) (j : Nat) : kidL (l.take j) <+: kidL l := by
  unfold kidL
  conv => rhs; rw [← List.take_append_drop j l, List.filter_append]
  exact List.prefix_append _ _
/-- what the iterator reads -/
structure KidsO (ρ : Nat → Role) (b mb cnt : Nat) (T : Tr) (am : Nat → Nat) (vk : Nat → Value) (Bn Bt p : Nat) (w : World) : Prop where
  tree : PTreeP w ρ b mb cnt T am vk
  bn : w.heap[Bn]? = some (.cells #[.pointer (some ⟨am p, 0, none⟩)] 75 (0, 0))
  bt : w.heap[Bt]? = some (.cells #[.pointer (some ⟨b, 0, none⟩)] 26 (0, 0))
def ptrE (am : Nat → Nat) (k : Nat) : Array Value := #[.pointer (some ⟨am k, 0, none⟩)]
set_option maxRecDepth 100000 in
set_option maxHeartbeats 2000000 in
theorem kids1_ok (m : Nat) (ρ : Nat → Role) (b mb cnt : Nat) (T : Tr) (am : Nat → Nat) (vk : Nat → Value) (Bn Bt : Nat) (d : Nd) (hwf : WF T) (hd : d ∈ T.L) (o : World → Prop) (hoK : ∀ W, o W → KidsO ρ b mb cnt T am vk Bn Bt d.path W) :
    SeqM m Tryz.prog 111 #[.pointer (some ⟨Bn, 0, none⟩), .pointer (some ⟨Bt, 0, none⟩)] (ptrE am) o (fun xs => xs = kidL d.kids) (fun pre => pre <+: kidL d.kids) := by
  intro l J Jx W hoo hJ hJx hY h0
  have ho := hoK W hoo
  have HOO := Lib.hid hoo
  have HOK := Lib.hid hoK
  have hok := hwf.ok d hd
  have hkl := hok.kl
  obtain ⟨ka, kc, hvk, hkc, hkel⟩ := kids_form (w := W) ((ho.tree.kid d hd).slAt)
  have c1 : W.cell? ⟨Bn, 0, none⟩ = some (.pointer (some ⟨am d.path, 0, none⟩)) := (cell_of ho.bn 0).trans rfl
  have c3 : W.cell? ⟨am d.path, 15, none⟩ = some (vk d.path) := (cell_of (ho.tree.node d hd) 15).trans rfl
  rw [hvk] at c3
  have HO := Lib.hid ho
  have HVK := Lib.hid hvk
  have HJ0 := Lib.hid hJ
  have HJX := Lib.hid hJx
  have HY := Lib.hid hY
  have HK : Hid (∀ k ∈ d.kids, k < 18446744073709551616 ∧ (k ≠ 0 → ptrV T.L am k = .pointer (some ⟨am k, 0, none⟩))) := fun k hk => ⟨hok.kids k hk, fun hz => by
    obtain ⟨n, hn, _⟩ := hwf.kid d hd k hk hz
    unfold ptrV; rw [hn]⟩
  clear ho hoo hoK hvk hJ hJx hY hok
  refine callsIn_of_wp Tryz.func111 rfl trivial ?_ rfl
  simp only [Tryz.ntmps111, List.size_toArray, List.length_cons, List.length_nil, Nat.reduceAdd, Nat.reduceSub, Array.replicate_succ, Array.replicate_zero, List.push_toArray, List.append_toArray, List.nil_append, List.cons_append]
  gi_wp2
  gi_loopw [5, 11] (fun _ i wr => ∃ j : Nat, j ≤ d.kids.length ∧ i = .int .i64 j ∧ Hid (J (kidL (d.kids.take j)) wr) ∧ Hid (o wr)) (fun _ i _ => d.kids.length - (intOf i).toNat)
  case atStart => exact ⟨0, Nat.zero_le _, rfl, h0, HOO⟩
  case round =>
    obtain ⟨j, hj, rfl, HJ, HOw⟩ := hrel
    have HO1 := Lib.hid (HOK.out wr HOw.out)
    by_cases hlt : j < d.kids.length
    · have t1 : decide ((j : Int) < (d.kids.length : Int)) = true := by simp; omega
      have t1' : decide (j < d.kids.length) = true := by simp; omega
      obtain ⟨a2, c2, hvk2, _, hkel2⟩ := kids_form (w := wr) ((HO1.out.tree.kid d hd).slAt)
      rw [HVK.out] at hvk2
      injection hvk2 with e1 e2 e3
      subst e1 e3
      obtain ⟨g, off, rfl, _, hcell⟩ := hkel2 j hlt
      have hkt := kidL_take hlt
      obtain ⟨hk64, hkp⟩ := HK.out d.kids[j] (List.getElem_mem hlt)
      have d0 : wr.cell? ⟨Bt, 0, none⟩ = some (.pointer (some ⟨b, 0, none⟩)) := (cell_of HO1.out.bt 0).trans rfl
      have d1 := HO1.out.tree.c0
      have hlk := mapN_at HO1.out.tree.map d.kids[j] hk64
      have i1 : (0 : Int) ≤ (j : Int) := by omega
      have i2 : (j : Int) < (d.kids.length : Int) := by omega
      have i3 : (d.kids.length : Int) ≤ (kc : Int) := by omega
      generalize d.kids[j] = k at *
      clear hkel hkel2 hk64
      by_cases hz : k = 0
      · have t2 : ((k : Int) != 0) = false := by simp [hz]
        rw [if_pos hz, List.append_nil] at hkt
        have HKT := Lib.hid hkt
        clear hkt hlk hkp hz
        gi_wp2
        refine ⟨fun f h => (by cases h), ?_⟩
        gi_wp2
        go_roundw
        case rel => exact ⟨j + 1, hlt, by go_num, by show J _ _; rw [HKT.out]; exact HJ.out, HOw⟩
        case measure => simp [intOf]; omega
      · have t2 : ((k : Int) != 0) = true := by simp; omega
        rw [hkp hz] at hlk
        rw [if_neg hz] at hkt
        have hpx : kidL (d.kids.take j) ++ [k] <+: kidL d.kids := by rw [← hkt]; exact kidL_pre _ _
        obtain ⟨fn, tmps, assign, body, hy, hR2⟩ := HY.out _ k wr HJ.out HOw.out hpx
        unfold ptrE at hy
        have HKT := Lib.hid hkt
        have HPX := Lib.hid hpx
        clear hkt hpx hkp hz
        gi_wp2
        refine ⟨fun h => (by cases h), ?_⟩
        refine hR2.mono ?_
        rintro e W3 (⟨rfl, hJ3, hk3⟩ | ⟨rfl, hJx3⟩)
        · have HJ3 := Lib.hid hJ3
          have HK3 := Lib.hid hk3
          clear hy hR2 hJ3 hk3
          gi_wp2
          go_roundw
          case rel => exact ⟨j + 1, hlt, by go_num, by show J _ _; rw [HKT.out]; exact HJ3.out, HK3⟩
          case measure => simp [intOf]; omega
        · gi_wp2
          refine bodyPost_ret (results_none rfl _ _ _) rfl ?_
          exact ⟨⟨_, rfl⟩, .inr ⟨_, HPX.out, hJx3⟩⟩
    · obtain rfl : j = d.kids.length := by omega
      have t1 : decide ((d.kids.length : Int) < (d.kids.length : Int)) = false := by simp
      have t1' : decide (d.kids.length < d.kids.length) = false := by simp
      have HJ2 : Hid (J (kidL d.kids) wr) := by have := HJ.out; rw [List.take_length] at this; exact this
      gi_wp2
      go_end0
      exact ⟨⟨_, rfl⟩, .inl ⟨_, rfl, HJ2.out⟩⟩
end Go.Proofs.YtkcnbbjmkkaolaaGreatDoor
namespace Go.Proofs.YtkcnbbjmkkaolaaGreatDoor
open Go.RowKit

theorem letsOut_onlyN {Q : Exit → Act → World → Prop} (h : LetsOut (onlyN Q)) : False := by
  obtain ⟨a, w, hq⟩ := h
  exact hq
section
variable {n l : Nat} {P : Program} {ops : Array Oper} {md : Region.Mode} {Q : Exit → Act → World → Prop}
theorem upon_round {o : Oper} {a : Act} {K K' : Act → World → Prop} (hK : ∀ a w, K a w → K' a w) {r : Result Next} (h : o.upon P a K (onlyN Q) r) : o.uponIn (Fence.wide.inRound l) n P a K' Q r := by
  cases r with
  | ok nx w' =>
    cases nx
    case value v => exact hK _ _ h
    case skip => exact hK _ _ h
    case defer d => exact hK _ _ h
    case enter f args =>
      refine ⟨fun hh => (by cases hh), ?_⟩
      have : CallsIn Fence.wide (n - 1) P f args w' fun e w'' => match e with
        | .returned v => K' (a.put o.dst v) w''
        | .panicked chain => Q (.panic chain) a w''
        | .outgrown => LetsOut Q := by
        refine callsIn_wide.2 ?_
        refine Calls.mono h ?_
        intro e w'' he
        cases e with
        | returned v => exact hK _ _ he
        | panicked c => exact he.elim
        | outgrown => exact (letsOut_onlyN he).elim
      refine CallsIn.mono (show CallsIn (Fence.wide.inRound l) (n - 1) P f args w' _ from this) ?_
      intro e w'' he
      cases e <;> exact he
    case row row args =>
      refine ⟨fun hh => (by cases hh), ?_⟩
      have h : Rows P row args w' fun v w'' => K (a.put o.dst v) w'' := h
      intro c cs _
      obtain ⟨v, w2, hr, hs⟩ := h c cs
      exact ⟨v, w2, hK _ _ hr, stepsIn_wide.2 hs⟩
    all_goals exact (show False from h).elim
  | halt x w' =>
    cases x <;> exact (show False from h).elim
theorem wpOp_round {i : Nat} (hd : noDefer ops.toList = true) {K K' : Act → World → Prop} {a : Act} {w : World} (hK : ∀ a w, K a w → K' a w) (h : wpOp P ops (onlyN Q) i K a w) : wpOpIn (Fence.wide.inRound l) n P ops Q i K' a w := by
  unfold wpOp at h
  unfold wpOpIn
  cases hi : ops[i]? with
  | none => rw [hi] at h; exact hK _ _ h
  | some o =>
    rw [hi] at h
    have hn := noDefer_spec hd hi
    simp only at h ⊢
    split
    · rename_i hw
      rw [if_pos hw] at h
      rcases h with h | ⟨_, h⟩
      · refine ⟨fun _ _ => trivial, ?_⟩
        rw [Oper.semAt_eq _ _ _ hn]
        exact upon_round hK h
      · exact (letsOut_onlyN h).elim
    · rename_i hw
      rw [if_neg hw] at h
      exact ⟨fun _ _ => trivial, hK _ _ h⟩
theorem wpAny_round (hd : noDefer ops.toList = true) : ∀ (fuel : Nat) (listed : Array Bool) (a : Act) (w : World), wpAny P md ops (onlyN Q) fuel listed a w → wpAnyIn (Fence.wide.inRound l) n P md ops Q fuel listed a w
  | 0, _, _, _, h => h
  | fuel + 1, _, _, _, h => ⟨h.1, fun i hi => wpOp_round hd (fun a w => wpAny_round hd fuel _ a w) (h.2 i hi)⟩
theorem wpIn_region_held_round {id : Nat} {a : Act} {w : World} {S : World → Prop} (hm : P.follows .mixedOrders = true) (hd : noDefer ops.toList = true) (hS : S w.drew)
    (h : S w.drew → wpAnyH P .any ops (onlyN Q) S ops.size (Array.replicate ops.size false) a w.drew) : (Code.region id ops true).wpIn (Fence.wide.inRound l) n P Q a w :=
  wpIn_region_any hm (wpAny_round hd _ _ _ _ (wpAny_of_held _ _ _ _ (h hS)))
end
end Go.Proofs.YtkcnbbjmkkaolaaGreatDoor
namespace Go.Proofs.YtkcnbbjmkkaolaaGreatDoor
open Go.RowKit Go.Shelf
attribute [local go_sem] Oper.semAt_some

theorem holdsM_mod {β : Type} (S : Nat → Prop) (W0 : World) : HoldsM W0.heap.size (fun (_ : β) W => Mod S W0 W) :=
  ⟨fun _ A C h hm => h.trans (hm.mono fun _ _ x => x.elim), fun _ A R R' h hR => h.trans' (mod_putR _) fun k hk e => by omega⟩
theorem holdsM_box {β : Type} {W0 : World} {Bc : Nat} (hB : Bc < W0.heap.size) (f : β → Obj) : HoldsM W0.heap.size (fun s W => W.heap[Bc]? = some (f s)) :=
  ⟨fun _ A C h hm => (hm.block _ (lt_of h) (fun x => x)).trans h, fun _ A R R' h _ => (World.putObj_heap_other (by omega)).trans h⟩
theorem holdsM_pure {β : Type} (B : Nat) (p : β → Prop) : HoldsM B (fun s (_ : World) => p s) := ⟨fun _ _ _ h _ => h, fun _ _ _ _ h _ => h⟩
theorem HoldsM.and {β : Type} {B : Nat} {I J : β → World → Prop} (h : HoldsM B I) (k : HoldsM B J) : HoldsM B (fun s W => I s W ∧ J s W) :=
  ⟨fun s A C x hm => ⟨h.mod s A C x.1 hm, k.mod s A C x.2 hm⟩, fun s A R R' x hR => ⟨h.put s A R R' x.1 hR, k.put s A R R' x.2 hR⟩⟩
def boxO (v : Value) (t : TypeId) : Obj := .cells #[v] t (0, 0)
set_option maxRecDepth 100000 in
set_option maxHeartbeats 2000000 in
theorem pcount_any {w : World} {ρ : Nat → Role} {b mb cnt : Nat} {T : Tr} {am : Nat → Nat} {vk : Nat → Value} (h : PTreeP w ρ b mb cnt T am vk) (hwf : WF T) (d : Nd) (hd : d ∈ T.L) :
    Calls Tryz.prog 63 #[.pointer (some ⟨b, 0, none⟩), .pointer (some ⟨am d.path, 0, none⟩)] w fun e w' => e = .returned (.int .i64 (cntOf d)) ∧ Mod (fun _ => False) w w' := by
  refine (callsIn_wide (n := 6)).1 ?_
  refine callsIn_of_wp_marks Tryz.func63 rfl trivial ?_ rfl
  simp only [Tryz.ntmps63, List.size_toArray, List.length_cons, List.length_nil, Nat.reduceAdd, Nat.reduceSub, Array.replicate_succ, Array.replicate_zero, List.push_toArray, List.append_toArray, List.nil_append, List.cons_append]
  gi_wp2_with (refine ⟨trivial, ?_⟩; gi_at_call 76; refine (callsIn_wide.2 (pkids_any _ _ _)).mono ?_; rintro e w' ⟨rfl, rfl⟩)
  obtain ⟨W0, hW0⟩ : ∃ W0, ((w.alloc (.cells #[.int .i64 0] 3)).alloc (.cells #[.pointer (some ⟨b, 0, none⟩)] 26)).alloc (.cells #[.pointer (some ⟨am d.path, 0, none⟩)] 75) = W0 := ⟨_, rfl⟩
  have hsz : W0.heap.size = w.heap.size + 3 := by subst hW0; simp
  have hb1 : W0.heap[w.heap.size]? = some (boxO (.int .i64 0) 3) := by subst hW0; exact alloc_keep (alloc_keep (new_at _ _))
  have hb2 : W0.heap[w.heap.size + 1]? = some (boxO (.pointer (some ⟨b, 0, none⟩)) 26) := by subst hW0; exact alloc_keep (new_at' _ _ _ (by simp))
  have hb3 : W0.heap[w.heap.size + 2]? = some (boxO (.pointer (some ⟨am d.path, 0, none⟩)) 75) := by subst hW0; exact new_at' _ _ _ (by simp)
  have hm0 : Mod (fun _ => False) w W0 := by subst hW0; exact ((((Mod.refl _ w).alloc _).alloc _).alloc _)
  rw [hW0]
  clear hW0
  have hsn : ∀ k, (∃ r, ρ k = r ∧ r ≠ .none) → k < w.heap.size := fun k ⟨r, e, hr⟩ => h.lt k (by rw [e]; exact hr)
  have hoK : ∀ W, Mod (· = w.heap.size) W0 W → KidsO ρ b mb cnt T am vk (w.heap.size + 2) (w.heap.size + 1) d.path W := fun W hm =>
    ⟨(h.mod0 hm0).mod hm fun k e => by
      cases hr : ρ k with
      | none => rfl
      | _ => exfalso; have := hsn k ⟨_, hr, fun x => by cases x⟩; omega, (hm.block _ (lt_of hb3) (by omega)).trans hb3, (hm.block _ (lt_of hb2) (by omega)).trans hb2⟩
  refine wpIn_rangeM (n := 6) (gf := 111) (lb := #[.pointer (some ⟨w.heap.size + 2, 0, none⟩), .pointer (some ⟨w.heap.size + 1, 0, none⟩)]) (by decide) rfl (enters_of Tryz.func111 (by kernel_rfl) rfl)
    (kids1_ok (6 - 1) ρ b mb cnt T am vk (w.heap.size + 2) (w.heap.size + 1) d hwf hd _ hoK) (fun _ => rfl)
    (fun pre W => W.heap[w.heap.size]? = some (boxO (.int .i64 pre.length) 3) ∧ Mod (· = w.heap.size) W0 W) (fun _ _ => False) (HoldsM.and (holdsM_box (by omega) (fun pre : List Nat => boxO (.int .i64 pre.length) 3)) (holdsM_mod _ _)) (holdsM_pure _ _) (holdsM_mod _ _) (Mod.refl _ _) ⟨hb1, Mod.refl _ _⟩
    (fun x a' W => a' = { tmps := #[.pointer (some ⟨b, 0, none⟩), .pointer (some ⟨am d.path, 0, none⟩), undef, undef, .int .i64 0, .pointer (some ⟨w.heap.size, 0, none⟩), .pointer (some ⟨b, 0, none⟩), .pointer (some ⟨am d.path, 0, none⟩), .func (.func 111) #[] #[.pointer (some ⟨w.heap.size + 1 + 1, 0, none⟩), .pointer (some ⟨w.heap.size + 1, 0, none⟩)], .pointer (some ⟨am x, 0, none⟩), undef, undef, undef], defers := [] }) ?hA1 ?round ?body ?done ?stop
  case hA1 => intro x a' A R R' h hR; exact h
  case round =>
    rintro l pre x W K ⟨hi, _⟩ ho hsp hnc hK
    simp only [ptrE]
    gi_wp2
    exact hK _ _ (Mod.refl _ _) (by simp)
  case body =>
    rintro l pre x a' W ⟨hi, _⟩ ho hsp rfl hnc
    have c1 : W.cell? ⟨w.heap.size, 0, none⟩ = some (.int .i64 pre.length) := (cell_of hi 0).trans rfl
    have f1 : W.frozen? ⟨w.heap.size, 0, none⟩ = false := free_of hi 0
    have hlen : pre.length < 112 := by
      have h1 := hsp.length_le
      have h2 := List.length_filter_le (fun k => decide (k ≠ 0)) d.kids
      have h3 := (hwf.ok d hd).kl
      unfold kidL at h1
      rw [List.length_append, List.length_singleton] at h1
      omega
    have hwr : IntKind.i64.wrap ((pre.length : Int) + 1) = (pre.length : Int) + 1 := by rw [IntKind.wrap_i64]; omega
    have hfin : ∀ a, BodyPostM W0.heap.size (fun W => Mod (· = w.heap.size) W0 W) (fun pre W => W.heap[w.heap.size]? = some (boxO (.int .i64 pre.length) 3) ∧ Mod (· = w.heap.size) W0 W) (fun _ _ => False) (pre ++ [x]) W .normal a (W.setCell ⟨w.heap.size, 0, none⟩ (.int .i64 ((pre.length : Int) + 1))) := fun a => by
      have hs := Mod.set1 W w.heap.size 0 (.int .i64 ((pre.length : Int) + 1))
      refine ⟨ho.trans hs, fun k hk => ?_, ?_, ho.trans hs⟩
      · obtain ⟨ob, hob, _⟩ := hnc k hk
        exact hs.block k (lt_of hob) (by omega)
      · show (W.setCell _ _).heap[w.heap.size]? = some (boxO (.int .i64 (pre ++ [x]).length) _)
        rw [List.length_append, List.length_singleton]
        exact heap_set hi 0 _
    clear hi ho hsp hnc hlen
    rw [hsz] at hfin
    gi_wp2
  case done =>
    rintro xs W rfl ⟨hi, hmW⟩ hD
    have c1 : W.cell? ⟨w.heap.size, 0, none⟩ = some (.int .i64 (kidL d.kids).length) := (cell_of hi 0).trans rfl
    gi_wp2
    refine ⟨by simp, .inl ⟨_, _, rfl, run_takeDeferred hD, ?_⟩⟩
    exact ⟨_, results_tmp rfl _ _ _, rfl, (hm0.trans' hmW fun k hk e => by omega).trans' (mod_putR _) fun k hk e => by omega⟩
  case stop => rintro pre W _ h; exact h.elim
def kfN (L : List Nd) (name : ByteArray) (k : Nat) : Option Nd := match look L k with
  | some n => if n.name = name then some n else none
  | none => none
theorem kidGo_find {L : List Nd} {name : ByteArray} (h0 : look L 0 = none) : ∀ l : List Nat, kidGo L name l = (kidL l).findSome? (kfN L name) := by
  intro l
  induction l with
  | nil => rfl
  | cons k r ih =>
    by_cases hk : k = 0
    · subst hk
      unfold kidGo
      rw [h0, show kidL (0 :: r) = kidL r from by unfold kidL; rw [List.filter_cons_of_neg (by simp)]]
      exact ih
    · rw [show kidL (k :: r) = k :: kidL r from by unfold kidL; rw [List.filter_cons_of_pos (by simp [hk])], List.findSome?_cons]
      cases hl : look L k with
      | none =>
        have e : kfN L name k = none := by unfold kfN; rw [hl]
        rw [e]
        unfold kidGo
        rw [hl]
        exact ih
      | some n =>
        by_cases hn : n.name = name
        · have e : kfN L name k = some n := by unfold kfN; rw [hl]; exact if_pos hn
          rw [e]
          unfold kidGo
          rw [hl]
          exact if_pos hn
        · have e : kfN L name k = none := by unfold kfN; rw [hl]; exact if_neg hn
          rw [e]
          unfold kidGo
          rw [hl]
          exact (if_neg hn).trans ih
theorem look_zero {T : Tr} (h : WF T) : look T.L 0 = none := by
  cases hl : look T.L 0 with
  | none => rfl
  | some n => obtain ⟨h1, h2⟩ := look_some hl; have := (h.lo n h1).1; omega
def kidV (T : Tr) (am : Nat → Nat) (d : Nd) (name : ByteArray) : Value := match kidOf T.L d name with
  | some n => .pointer (some ⟨am n.path, 0, none⟩)
  | none => .pointer none
theorem kidV_none {T : Tr} (h : WF T) {am : Nat → Nat} {d : Nd} {name : ByteArray} (hn : ∀ y ∈ kidL d.kids, kfN T.L name y = none) : kidV T am d name = .pointer none := by
  unfold kidV kidOf
  rw [kidGo_find (look_zero h), List.findSome?_eq_none_iff.2 hn]
theorem kidV_some {T : Tr} (h : WF T) {am : Nat → Nat} {d : Nd} {name : ByteArray} {pre : List Nat} {x : Nat} {n : Nd} (hp : pre ++ [x] <+: kidL d.kids) (hn : ∀ y ∈ pre, kfN T.L name y = none) (hx : look T.L x = some n) (he : n.name = name) : kidV T am d name = .pointer (some ⟨am x, 0, none⟩) := by
  obtain ⟨r, hr⟩ := hp
  unfold kidV kidOf
  rw [kidGo_find (look_zero h), ← hr, List.append_assoc, List.findSome?_append, List.findSome?_eq_none_iff.2 hn]
  have e1 : kfN T.L name x = some n := by unfold kfN; rw [hx]; exact if_pos he
  show (match (none : Option Nd).or (([x] ++ r).findSome? (kfN T.L name)) with | some n => _ | none => _) = _
  rw [Option.none_or, List.singleton_append, List.findSome?_cons, e1]
  show Value.pointer (some ⟨am n.path, 0, none⟩) = _
  rw [(look_some hx).2]
set_option maxRecDepth 100000 in
set_option maxHeartbeats 2000000 in
theorem pkid_any {w : World} {ρ : Nat → Role} {b mb cnt : Nat} {T : Tr} {am : Nat → Nat} {vk : Nat → Value} (h : PTreeP w ρ b mb cnt T am vk) (hwf : WF T) (d : Nd) (hd : d ∈ T.L) (name : ByteArray) :
    Calls Tryz.prog 61 #[.pointer (some ⟨b, 0, none⟩), .pointer (some ⟨am d.path, 0, none⟩), .string name] w fun e w' => e = .returned (kidV T am d name) ∧ Mod (fun _ => False) w w' := by
  refine (callsIn_wide (n := 6)).1 ?_
  refine callsIn_of_wp_marks Tryz.func61 rfl trivial ?_ rfl
  simp only [Tryz.ntmps61, List.size_toArray, List.length_cons, List.length_nil, Nat.reduceAdd, Nat.reduceSub, Array.replicate_succ, Array.replicate_zero, List.push_toArray, List.append_toArray, List.nil_append, List.cons_append]
  gi_wp2_with (refine ⟨trivial, ?_⟩; gi_at_call 76; refine (callsIn_wide.2 (pkids_any _ _ _)).mono ?_; rintro e w' ⟨rfl, rfl⟩)
  obtain ⟨W0, hW0⟩ : ∃ W0, (((w.alloc (.cells #[.string name] 9)).alloc (.cells #[.pointer none] 75)).alloc (.cells #[.pointer (some ⟨b, 0, none⟩)] 26)).alloc (.cells #[.pointer (some ⟨am d.path, 0, none⟩)] 75) = W0 := ⟨_, rfl⟩
  have hsz : W0.heap.size = w.heap.size + 4 := by subst hW0; simp
  have hb0 : W0.heap[w.heap.size]? = some (boxO (.string name) 9) := by subst hW0; exact alloc_keep (alloc_keep (alloc_keep (new_at _ _)))
  have hb1 : W0.heap[w.heap.size + 1]? = some (boxO (.pointer none) 75) := by subst hW0; exact alloc_keep (alloc_keep (new_at' _ _ _ (by simp)))
  have hb2 : W0.heap[w.heap.size + 2]? = some (boxO (.pointer (some ⟨b, 0, none⟩)) 26) := by subst hW0; exact alloc_keep (new_at' _ _ _ (by simp))
  have hb3 : W0.heap[w.heap.size + 3]? = some (boxO (.pointer (some ⟨am d.path, 0, none⟩)) 75) := by subst hW0; exact new_at' _ _ _ (by simp)
  have hm0 : Mod (fun _ => False) w W0 := by subst hW0; exact (((((Mod.refl _ w).alloc _).alloc _).alloc _).alloc _)
  rw [hW0]
  clear hW0
  have hsn : ∀ k, (∃ r, ρ k = r ∧ r ≠ .none) → k < w.heap.size := fun k ⟨r, e, hr⟩ => h.lt k (by rw [e]; exact hr)
  have hoT : ∀ W, Mod (· = w.heap.size + 1) W0 W → PTreeP W ρ b mb cnt T am vk := fun W hm => (h.mod0 hm0).mod hm fun k e => by
      cases hr : ρ k with
      | none => rfl
      | _ => exfalso; have := hsn k ⟨_, hr, fun x => by cases x⟩; omega
  have hoK : ∀ W, Mod (· = w.heap.size + 1) W0 W → KidsO ρ b mb cnt T am vk (w.heap.size + 3) (w.heap.size + 2) d.path W := fun W hm =>
    ⟨hoT W hm, (hm.block _ (lt_of hb3) (by omega)).trans hb3, (hm.block _ (lt_of hb2) (by omega)).trans hb2⟩
  refine wpIn_rangeM (n := 6) (gf := 111) (lb := #[.pointer (some ⟨w.heap.size + 3, 0, none⟩), .pointer (some ⟨w.heap.size + 2, 0, none⟩)]) (by decide) rfl (enters_of Tryz.func111 (by kernel_rfl) rfl)
    (kids1_ok (6 - 1) ρ b mb cnt T am vk (w.heap.size + 3) (w.heap.size + 2) d hwf hd _ hoK) (fun _ => rfl)
    (fun pre W => ((∀ y ∈ pre, kfN T.L name y = none) ∧ W.heap[w.heap.size + 1]? = some (boxO (.pointer none) 75)) ∧ Mod (· = w.heap.size + 1) W0 W)
    (fun pre W => W.heap[w.heap.size + 1]? = some (boxO (kidV T am d name) 75) ∧ Mod (· = w.heap.size + 1) W0 W)
    (HoldsM.and (HoldsM.and (holdsM_pure _ (fun pre : List Nat => ∀ y ∈ pre, kfN T.L name y = none)) (holdsM_box (by omega) (fun _ => boxO (.pointer none) 75))) (holdsM_mod _ _))
    (HoldsM.and (holdsM_box (by omega) (fun _ => boxO (kidV T am d name) 75)) (holdsM_mod _ _))
    (holdsM_mod _ _) (Mod.refl _ _) ⟨⟨(fun y hy => by cases hy), hb1⟩, Mod.refl _ _⟩
    (fun x a' W => a' = { tmps := #[.pointer (some ⟨b, 0, none⟩), .pointer (some ⟨am d.path, 0, none⟩), .string name, undef, undef, .pointer (some ⟨w.heap.size, 0, none⟩), .pointer (some ⟨w.heap.size + 1, 0, none⟩), .pointer (some ⟨am x, 0, none⟩), .pointer (some ⟨b, 0, none⟩), .pointer (some ⟨am d.path, 0, none⟩), .func (.func 111) #[] #[.pointer (some ⟨w.heap.size + 1 + 1 + 1, 0, none⟩), .pointer (some ⟨w.heap.size + 1 + 1, 0, none⟩)], .pointer (some ⟨am x, 0, none⟩), undef, undef, undef, undef, undef, undef, undef, undef], defers := [] }) ?hA1 ?round ?body ?done ?stop
  case hA1 => intro x a' A R R' h hR; exact h
  case round =>
    rintro l pre x W K ⟨hi, _⟩ ho hsp hnc hK
    simp only [ptrE]
    gi_wp2
    exact hK _ _ (Mod.refl _ _) rfl
  case body =>
    rintro l pre x a' W ⟨⟨hi1, hi2⟩, _⟩ ho hsp rfl hnc
    obtain ⟨n, hn, _, _⟩ : ∃ n, look T.L x = some n ∧ n.parent = d.path ∧ x ≠ 1 := by
      obtain ⟨r, hr⟩ := hsp
      have hx : x ∈ kidL d.kids := by rw [← hr]; simp
      unfold kidL at hx
      obtain ⟨h1, h2⟩ := List.mem_filter.1 hx
      exact hwf.kid d hd x h1 (by simpa using h2)
    obtain ⟨hnm, hnp⟩ := look_some hn
    have c9 : W.cell? ⟨am x, 9, none⟩ = some (.string n.name) := by rw [← hnp]; exact (cell_of ((hoT W ho).node n hnm) 9).trans rfl
    have cn : W.cell? ⟨w.heap.size, 0, none⟩ = some (.string name) := (cell_of ((ho.block _ (lt_of hb0) (by omega)).trans hb0) 0).trans rfl
    have c1 : W.cell? ⟨w.heap.size + 1, 0, none⟩ = some (.pointer none) := (cell_of hi2 0).trans rfl
    have f1 : W.frozen? ⟨w.heap.size + 1, 0, none⟩ = false := free_of hi2 0
    have s1 : (n.name.toList == name.toList) = decide (n.name = name) := str_beq _ _
    by_cases he : n.name = name
    · rw [decide_eq_true he] at s1
      have hkv := kidV_some hwf (am := am) hsp hi1 hn he
      have hfin : ∀ a, BodyPostM W0.heap.size (fun W => Mod (· = w.heap.size + 1) W0 W) (fun pre W => ((∀ y ∈ pre, kfN T.L name y = none) ∧ W.heap[w.heap.size + 1]? = some (boxO (.pointer none) 75)) ∧ Mod (· = w.heap.size + 1) W0 W) (fun pre W => W.heap[w.heap.size + 1]? = some (boxO (kidV T am d name) 75) ∧ Mod (· = w.heap.size + 1) W0 W) (pre ++ [x]) W .ret a (W.drew.setCell ⟨w.heap.size + 1, 0, none⟩ (.pointer (some ⟨am x, 0, none⟩))) := fun a => by
        have hs : Mod (· = w.heap.size + 1) W (W.drew.setCell ⟨w.heap.size + 1, 0, none⟩ (.pointer (some ⟨am x, 0, none⟩))) := (Mod.refl _ W).drew.trans (Mod.set1 _ _ 0 _)
        refine ⟨fun k hk => ?_, ?_, ho.trans hs⟩
        · obtain ⟨ob, hob, _⟩ := hnc k hk
          exact hs.block k (lt_of hob) (by omega)
        · show _ = some (boxO (kidV T am d name) _)
          rw [hkv]
          exact heap_set (w := W.drew) hi2 0 _
      have hfin2 := hfin
      rw [hsz] at hfin2
      clear hi1 hi2 ho hsp hnc he hkv hn hnm hnp hoT hoK hb0 hb1 hb2 hb3
      gi_wp2
      refine wpIn_region_held_round (S := fun w' => Hid (Mod (fun _ => False) W w')) (by kernel_rfl) (by kernel_rfl) (Lib.hid (Mod.refl (fun _ => False) W).drew) (fun hHeld => ?_)
      refine hT 0 rfl (fun _ _ => by go_simp; all_goals with_reducible rfl) ?_
      try simp only [gA, gB, gC, Act.put, sA, sB, sC]
      refine hT 1 rfl (fun _ _ => by go_simp; all_goals with_reducible rfl) ?_
      try simp only [gA, gB, gC, Act.put, sA, sB, sC]
      refine hT 2 rfl (fun _ _ => by go_simp; all_goals with_reducible rfl) ?_
      try simp only [gA, gB, gC, Act.put, sA, sB, sC]
      refine hT 3 rfl (fun _ _ => by go_simp; all_goals with_reducible rfl) ?_
      try simp only [gA, gB, gC, Act.put, sA, sB, sC]
      refine hT 4 rfl (fun wH hSw => by have cH := keepN hSw.out c9; clear hSw; go_simp; all_goals with_reducible rfl) ?_
      try simp only [gA, gB, gC, Act.put, sA, sB, sC]
      refine hT 5 rfl (fun wH hSw => by have cH := keepN hSw.out cn; clear hSw; go_simp; all_goals with_reducible rfl) ?_
      try simp only [gA, gB, gC, Act.put, sA, sB, sC]
      refine hT 6 rfl (fun _ _ => by go_simp; all_goals with_reducible rfl) ?_
      try simp only [gA, gB, gC, Act.put, sA, sB, sC]
      refine wpAnyH_done (by kernel_rfl) ?_ _
      refine onlyN_out ?_
      clear hHeld
      gi_wp2
      all_goals first | exact hfin _ | exact hfin2 _
    · rw [decide_eq_false he] at s1
      have hkn : kfN T.L name x = none := by unfold kfN; rw [hn]; exact if_neg he
      have hfin : ∀ a, BodyPostM W0.heap.size (fun W => Mod (· = w.heap.size + 1) W0 W) (fun pre W => ((∀ y ∈ pre, kfN T.L name y = none) ∧ W.heap[w.heap.size + 1]? = some (boxO (.pointer none) 75)) ∧ Mod (· = w.heap.size + 1) W0 W) (fun pre W => W.heap[w.heap.size + 1]? = some (boxO (kidV T am d name) 75) ∧ Mod (· = w.heap.size + 1) W0 W) (pre ++ [x]) W .normal a W.drew := fun a => by
        have hs : Mod (· = w.heap.size + 1) W W.drew := (Mod.refl _ W).drew
        refine ⟨ho.trans hs, fun k hk => ?_, ⟨fun y hy => ?_, hi2⟩, ho.trans hs⟩
        · obtain ⟨ob, hob, _⟩ := hnc k hk
          exact hs.block k (lt_of hob) (by omega)
        · rcases List.mem_append.1 hy with e | e
          · exact hi1 y e
          · rw [List.mem_singleton.1 e]; exact hkn
      have hfin2 := hfin
      rw [hsz] at hfin2
      clear hi1 hi2 ho hsp hnc he hkn hn hnm hnp hoT hoK hb0 hb1 hb2 hb3
      gi_wp2
      refine wpIn_region_held_round (S := fun w' => Hid (Mod (fun _ => False) W w')) (by kernel_rfl) (by kernel_rfl) (Lib.hid (Mod.refl (fun _ => False) W).drew) (fun hHeld => ?_)
      refine hT 0 rfl (fun _ _ => by go_simp; all_goals with_reducible rfl) ?_
      try simp only [gA, gB, gC, Act.put, sA, sB, sC]
      refine hT 1 rfl (fun _ _ => by go_simp; all_goals with_reducible rfl) ?_
      try simp only [gA, gB, gC, Act.put, sA, sB, sC]
      refine hT 2 rfl (fun _ _ => by go_simp; all_goals with_reducible rfl) ?_
      try simp only [gA, gB, gC, Act.put, sA, sB, sC]
      refine hT 3 rfl (fun _ _ => by go_simp; all_goals with_reducible rfl) ?_
      try simp only [gA, gB, gC, Act.put, sA, sB, sC]
      refine hT 4 rfl (fun wH hSw => by have cH := keepN hSw.out c9; clear hSw; go_simp; all_goals with_reducible rfl) ?_
      try simp only [gA, gB, gC, Act.put, sA, sB, sC]
      refine hT 5 rfl (fun wH hSw => by have cH := keepN hSw.out cn; clear hSw; go_simp; all_goals with_reducible rfl) ?_
      try simp only [gA, gB, gC, Act.put, sA, sB, sC]
      refine hT 6 rfl (fun _ _ => by go_simp; all_goals with_reducible rfl) ?_
      try simp only [gA, gB, gC, Act.put, sA, sB, sC]
      refine wpAnyH_done (by kernel_rfl) ?_ _
      refine onlyN_out ?_
      clear hHeld
      gi_wp2
      all_goals first | exact hfin _ | exact hfin2 _
  case done =>
    rintro xs W rfl ⟨⟨hi1, hi2⟩, hmW⟩ hD
    have c1 : W.cell? ⟨w.heap.size + 1, 0, none⟩ = some (.pointer none) := (cell_of hi2 0).trans rfl
    have f1 : W.frozen? ⟨w.heap.size + 1, 0, none⟩ = false := free_of hi2 0
    have hkv := kidV_none hwf (am := am) hi1
    have s1 : W.setCell ⟨w.heap.size + 1, 0, none⟩ (.pointer none) = W := setCell_idR hi2 rfl
    have hm1 : Mod (fun _ => False) w (W.putObj W0.heap.size (.deferred none)) := (hm0.trans' hmW fun k hk e => by omega).trans' (mod_putR _) fun k hk e => by omega
    have hbr : (W.putObj W0.heap.size (.deferred none)).heap[w.heap.size + 1]? = some (boxO (.pointer none) 75) := (World.putObj_heap_other (by omega)).trans hi2
    have c2 : (W.putObj W0.heap.size (.deferred none)).cell? ⟨w.heap.size + 1, 0, none⟩ = some (.pointer none) := (cell_of hbr 0).trans rfl
    gi_wp2
    refine ⟨by simp, .inl ⟨_, _, rfl, run_takeDeferred hD, ?_⟩⟩
    exact ⟨.pointer none, by simp [results, Tryz.f61, go_sem, c2], by rw [hkv], hm1⟩
  case stop =>
    rintro pre W _ ⟨hi2, hmW⟩ hD
    have hm1 : Mod (fun _ => False) w (W.putObj W0.heap.size (.deferred none)) := (hm0.trans' hmW fun k hk e => by omega).trans' (mod_putR _) fun k hk e => by omega
    have hbr : (W.putObj W0.heap.size (.deferred none)).heap[w.heap.size + 1]? = some (boxO (kidV T am d name) 75) := (World.putObj_heap_other (by omega)).trans hi2
    have c2 : (W.putObj W0.heap.size (.deferred none)).cell? ⟨w.heap.size + 1, 0, none⟩ = some (kidV T am d name) := (cell_of hbr 0).trans rfl
    gi_wp2
    refine ⟨by simp, .inl ⟨_, _, rfl, run_takeDeferred hD, ?_⟩⟩
    exact ⟨kidV T am d name, by simp [results, Tryz.f61, go_sem, c2], rfl, hm1⟩
end Go.Proofs.YtkcnbbjmkkaolaaGreatDoor
namespace Go.Proofs.YtkcnbbjmkkaolaaGreatDoor
open Go.RowKit

/-- a variable's box -/
def BoxA (w : World) (B : Nat) (v : Value) (t : TypeId) : Prop := w.heap[B]? = some (boxO v t)
theorem BoxA.mod {w w' : World} {B : Nat} {v : Value} {t : TypeId} (h : BoxA w B v t) (hm : Mod (fun _ => False) w w') : BoxA w' B v t := (hm.block B (lt_of h) (fun x => x)).trans h
theorem BoxA.cell {w : World} {B : Nat} {v : Value} {t : TypeId} (h : BoxA w B v t) : w.cell? ⟨B, 0, none⟩ = some v := (cell_of h 0).trans rfl
def ptr (a : Nat) : Value := .pointer (some ⟨a, 0, none⟩)
theorem pW1 {w : World} {Bn a : Nat} {n : Nd} {vk : Value} (hb : BoxA w Bn (ptr a) 75) (ha : w.heap[a]? = some (pnO n vk)) : Calls Tryz.prog 68 #[ptr Bn] w fun e w' => e = .returned (.bool (!n.dir)) ∧ w = w' := by
  have c0 := hb.cell
  have hd := pdir_any a n vk w ha
  clear hb ha
  unfold ptr at *
  go_enter Tryz.func68, Tryz.ntmps68
  go_wp2_with fail
  refine hd.mono ?_
  rintro e w1 ⟨rfl, rfl⟩
  go_wp2
  go_ret
  exact ⟨rfl, rfl⟩
theorem pC1 {w : World} {Bn a : Nat} {n : Nd} {vk : Value} (hb : BoxA w Bn (ptr a) 75) (ha : w.heap[a]? = some (pnO n vk)) : Calls Tryz.prog 53 #[ptr Bn] w fun e w' => e = .returned (.bool (!n.dir)) ∧ w = w' := by
  have c0 := hb.cell
  have hd := pdir_any a n vk w ha
  clear hb ha
  unfold ptr at *
  go_enter Tryz.func53, Tryz.ntmps53
  go_wp2_with fail
  refine hd.mono ?_
  rintro e w1 ⟨rfl, rfl⟩
  go_wp2
  go_ret
  exact ⟨rfl, rfl⟩
theorem pW2 {w : World} {Bn Bw a : Nat} {n : Nd} {vk : Value} {who : ByteArray} (hb : BoxA w Bn (ptr a) 75) (hw : BoxA w Bw (.string who) 9) (ha : w.heap[a]? = some (pnO n vk)) (hp : n.perm < 512) : Calls Tryz.prog 69 #[ptr Bn, ptr Bw] w fun e w' => e = .returned (.bool (!mayB n who 1)) ∧ w = w' := by
  have c0 := hb.cell
  have c1 := hw.cell
  have hd := pmay_any a n vk who 1 w ha (by decide) hp
  clear hb hw ha
  unfold ptr at *
  go_enter Tryz.func69, Tryz.ntmps69
  go_wp2_with fail
  refine hd.mono ?_
  rintro e w1 ⟨rfl, rfl⟩
  go_wp2
  go_ret
  exact ⟨rfl, rfl⟩
theorem pC2 {w : World} {Bn Bw a : Nat} {n : Nd} {vk : Value} {who : ByteArray} (hb : BoxA w Bn (ptr a) 75) (hw : BoxA w Bw (.string who) 9) (ha : w.heap[a]? = some (pnO n vk)) (hp : n.perm < 512) : Calls Tryz.prog 55 #[ptr Bn, ptr Bw] w fun e w' => e = .returned (.bool (!mayB n who 2)) ∧ w = w' := by
  have c0 := hb.cell
  have c1 := hw.cell
  have hd := pmay_any a n vk who 2 w ha (by decide) hp
  clear hb hw ha
  unfold ptr at *
  go_enter Tryz.func55, Tryz.ntmps55
  go_wp2_with fail
  refine hd.mono ?_
  rintro e w1 ⟨rfl, rfl⟩
  go_wp2
  go_ret
  exact ⟨rfl, rfl⟩
theorem pX2 {w : World} {Bn Bw a : Nat} {n : Nd} {vk : Value} {who : ByteArray} (hb : BoxA w Bn (ptr a) 75) (hw : BoxA w Bw (.string who) 9) (ha : w.heap[a]? = some (pnO n vk)) (hp : n.perm < 512) : Calls Tryz.prog 78 #[ptr Bn, ptr Bw] w fun e w' => e = .returned (.bool (!mayB n who 2)) ∧ w = w' := by
  have c0 := hb.cell
  have c1 := hw.cell
  have hd := pmay_any a n vk who 2 w ha (by decide) hp
  clear hb hw ha
  unfold ptr at *
  go_enter Tryz.func78, Tryz.ntmps78
  go_wp2_with fail
  refine hd.mono ?_
  rintro e w1 ⟨rfl, rfl⟩
  go_wp2
  go_ret
  exact ⟨rfl, rfl⟩
theorem pW3 {w : World} {Bu Bm : Nat} {up : Bool} {name : ByteArray} (hu : BoxA w Bu (.bool up) 4) (hn : BoxA w Bm (.string name) 9) (hs : name.size ≤ 65536) (hT : Tabs w) : Calls Tryz.prog 70 #[ptr Bu, ptr Bm] w fun e w' => e = .returned (.bool (!up && !nameOk name)) ∧ Mod (fun _ => False) w w' := by
  have c0 := hu.cell
  have c1 := hn.cell
  have hd := mname_any name w (by omega) hT
  clear hu hn
  unfold ptr at *
  cases up with
  | true =>
    go_enter Tryz.func70, Tryz.ntmps70
    go_wp2
    go_ret
    exact ⟨rfl, Mod.refl _ _⟩
  | false =>
    unfold nmE at hd
    cases hk : nameOk name with
    | true =>
      rw [hk] at hd
      simp only [if_true] at hd
      clear hk
      go_enter Tryz.func70, Tryz.ntmps70
      go_wp2_with fail
      refine hd.mono ?_
      rintro e w1 ⟨rfl, m1⟩
      go_wp2
      go_ret
      exact ⟨rfl, m1⟩
    | false =>
      rw [hk] at hd
      simp only [Bool.false_eq_true, if_false] at hd
      clear hk
      go_enter Tryz.func70, Tryz.ntmps70
      go_wp2_with fail
      refine hd.mono ?_
      rintro e w1 ⟨rfl, m1⟩
      go_wp2
      go_ret
      exact ⟨rfl, m1⟩
section
variable {w : World} {ρ : Nat → Role} {b mb cnt : Nat} {T : Tr} {am : Nat → Nat} {vk : Nat → Value}
theorem pW4 (h : PTreeP w ρ b mb cnt T am vk) (hwf : WF T) {d : Nd} (hd : d ∈ T.L) {Bu Bt Bn Bm : Nat} {up : Bool} {name : ByteArray} (hu : BoxA w Bu (.bool up) 4) (ht : BoxA w Bt (ptr b) 26) (hn : BoxA w Bn (ptr (am d.path)) 75) (hm : BoxA w Bm (.string name) 9) :
    Calls Tryz.prog 71 #[ptr Bu, ptr Bt, ptr Bn, ptr Bm] w fun e w' => e = .returned (.bool (!up && (kidOf T.L d name).isNone)) ∧ Mod (fun _ => False) w w' := by
  have c0 := hu.cell
  have c1 := ht.cell
  have c2 := hn.cell
  have c3 := hm.cell
  have hk := pkid_any h hwf d hd name
  clear hu ht hn hm h hd hwf
  unfold ptr at *
  cases up with
  | true =>
    clear hk
    go_enter Tryz.func71, Tryz.ntmps71
    go_wp2
    go_ret
    exact ⟨rfl, Mod.refl _ _⟩
  | false =>
    unfold kidV at hk
    cases hx : kidOf T.L d name with
    | none =>
      rw [hx] at hk
      simp only at hk
      clear hx
      go_enter Tryz.func71, Tryz.ntmps71
      go_wp2_with fail
      refine hk.mono ?_
      rintro e w1 ⟨rfl, m1⟩
      go_wp2
      go_ret
      exact ⟨rfl, m1⟩
    | some n =>
      rw [hx] at hk
      simp only at hk
      clear hx
      go_enter Tryz.func71, Tryz.ntmps71
      go_wp2_with fail
      refine hk.mono ?_
      rintro e w1 ⟨rfl, m1⟩
      go_wp2
      go_ret
      exact ⟨rfl, m1⟩
theorem pC5 (h : PTreeP w ρ b mb cnt T am vk) (hwf : WF T) {d : Nd} (hd : d ∈ T.L) {Bt Bn Bm : Nat} {name : ByteArray} (ht : BoxA w Bt (ptr b) 26) (hn : BoxA w Bn (ptr (am d.path)) 75) (hm : BoxA w Bm (.string name) 9) :
    Calls Tryz.prog 60 #[ptr Bt, ptr Bn, ptr Bm] w fun e w' => e = .returned (.bool (kidOf T.L d name).isSome) ∧ Mod (fun _ => False) w w' := by
  have c1 := ht.cell
  have c2 := hn.cell
  have c3 := hm.cell
  have hk := pkid_any h hwf d hd name
  clear ht hn hm h hd hwf
  unfold ptr at *
  unfold kidV at hk
  cases hx : kidOf T.L d name with
  | none =>
    rw [hx] at hk
    simp only at hk
    clear hx
    go_enter Tryz.func60, Tryz.ntmps60
    go_wp2_with fail
    refine hk.mono ?_
    rintro e w1 ⟨rfl, m1⟩
    go_wp2
    go_ret
    exact ⟨rfl, m1⟩
  | some n =>
    rw [hx] at hk
    simp only at hk
    clear hx
    go_enter Tryz.func60, Tryz.ntmps60
    go_wp2_with fail
    refine hk.mono ?_
    rintro e w1 ⟨rfl, m1⟩
    go_wp2
    go_ret
    exact ⟨rfl, m1⟩
theorem pX3 (h : PTreeP w ρ b mb cnt T am vk) (hwf : WF T) {d : Nd} (hd : d ∈ T.L) {Bt Bn : Nat} (ht : BoxA w Bt (ptr b) 26) (hn : BoxA w Bn (ptr (am d.path)) 75) :
    Calls Tryz.prog 79 #[ptr Bt, ptr Bn] w fun e w' => e = .returned (.bool (decide (0 < cntOf d))) ∧ Mod (fun _ => False) w w' := by
  have c1 := ht.cell
  have c2 := hn.cell
  have hk := pcount_any h hwf d hd
  clear ht hn h hd hwf
  unfold ptr at *
  have HC : Hid (decide (0 < cntOf d) = decide (0 < (cntOf d : Int))) := by show _ = _; rw [Bool.eq_iff_iff]; simp
  generalize cntOf d = c at *
  go_enter Tryz.func79, Tryz.ntmps79
  go_wp2_with fail
  refine hk.mono ?_
  rintro e w1 ⟨rfl, m1⟩
  go_wp2
  go_ret
  exact ⟨by rw [HC.out]; first | rfl | simp, m1⟩
theorem pC6 (h : PTreeP w ρ b mb cnt T am vk) (hwf : WF T) {d : Nd} (hd : d ∈ T.L) {Bt Bn : Nat} (ht : BoxA w Bt (ptr b) 26) (hn : BoxA w Bn (ptr (am d.path)) 75) :
    Calls Tryz.prog 62 #[ptr Bt, ptr Bn] w fun e w' => e = .returned (.bool (decide (1024 ≤ T.L.length) || decide (112 ≤ cntOf d))) ∧ Mod (fun _ => False) w w' := by
  have c1 := ht.cell
  have c2 := hn.cell
  have c3 := h.c0
  have hl : ∀ ty, (Builtin.len_ #[79] ty #[.map (some mb)]).run Tryz.prog w = .ok (.int .i64 T.L.length) w := fun ty => h.map.len Tryz.underlying79 ty
  have hk := pcount_any h hwf d hd
  clear ht hn h hd hwf
  unfold ptr at *
  have HC : Hid (decide (112 ≤ cntOf d) = decide (112 ≤ (cntOf d : Int))) := by show _ = _; rw [Bool.eq_iff_iff]; simp; omega
  generalize cntOf d = c at *
  generalize T.L.length = q at *
  by_cases hq : 1024 ≤ q
  · have t1 : decide (1024 ≤ (q : Int)) = true := by simp; omega
    rw [decide_eq_true hq]
    clear hq hk
    go_enter Tryz.func62, Tryz.ntmps62
    go_wp2
    go_ret
    exact ⟨rfl, Mod.refl _ _⟩
  · have t1 : decide (1024 ≤ (q : Int)) = false := by simp; omega
    rw [decide_eq_false hq]
    clear hq
    go_enter Tryz.func62, Tryz.ntmps62
    go_wp2_with fail
    refine hk.mono ?_
    rintro e w1 ⟨rfl, m1⟩
    go_wp2
    go_ret
    exact ⟨by rw [HC.out]; rfl, m1⟩
end
theorem pX1 {w : World} {Bp p : Nat} (hb : BoxA w Bp (.int .u64 p) 33) : Calls Tryz.prog 77 #[ptr Bp] w fun e w' => e = .returned (.bool (decide (p = 1))) ∧ w = w' := by
  have c0 := hb.cell
  clear hb
  unfold ptr
  have HE : Hid (decide (p = 1) = ((p : Int) == 1)) := by show _ = _; rw [Bool.eq_iff_iff]; simp; omega
  go_enter Tryz.func77, Tryz.ntmps77
  go_wp2
  go_ret
  exact ⟨by rw [HE.out]; rfl, rfl⟩
theorem pC3 {w : World} {Bm Bw : Nat} {name who : ByteArray} (hn : BoxA w Bm (.string name) 9) (hw : BoxA w Bw (.string who) 9) (hs : name.size ≤ 65536) (hs2 : who.size ≤ 65536) (hT : Tabs w) : Calls Tryz.prog 57 #[ptr Bm, ptr Bw] w fun e w' => e = .returned (.bool (!nameOk name || !userOk who)) ∧ Mod (fun _ => False) w w' := by
  have c0 := hn.cell
  have c1 := hw.cell
  have hd := mname_any name w (by omega) hT
  have HU : Hid (∀ U, Mod (fun _ => False) w U → Calls Tryz.prog 12 #[.string who] U fun e w' => e = .returned (.int .i64 (nmE (userOk who))) ∧ Mod (fun _ => False) U w') := fun U hU => muser_any who U (by omega) (hT.mod hU)
  clear hn hw hT
  unfold ptr at *
  unfold nmE at hd HU
  cases hk : nameOk name with
  | false =>
    rw [hk] at hd
    simp only [Bool.false_eq_true, if_false] at hd
    clear hk HU
    go_enter Tryz.func57, Tryz.ntmps57
    go_wp2_with fail
    refine hd.mono ?_
    rintro e w1 ⟨rfl, m1⟩
    go_wp2
    go_ret
    exact ⟨rfl, m1⟩
  | true =>
    rw [hk] at hd
    simp only [if_true] at hd
    clear hk
    cases hj : userOk who with
    | false =>
      rw [hj] at HU
      simp only [Bool.false_eq_true, if_false] at HU
      clear hj
      go_enter Tryz.func57, Tryz.ntmps57
      go_wp2_with fail
      refine hd.mono ?_
      rintro e w1 ⟨rfl, m1⟩
      have d1 := keepN m1 c1
      have hu := HU.out _ m1
      go_wp2_with fail
      refine hu.mono ?_
      rintro e w2 ⟨rfl, m2⟩
      go_wp2
      go_ret
      exact ⟨rfl, m1.trans m2⟩
    | true =>
      rw [hj] at HU
      simp only [if_true] at HU
      clear hj
      go_enter Tryz.func57, Tryz.ntmps57
      go_wp2_with fail
      refine hd.mono ?_
      rintro e w1 ⟨rfl, m1⟩
      have d1 := keepN m1 c1
      have hu := HU.out _ m1
      go_wp2_with fail
      refine hu.mono ?_
      rintro e w2 ⟨rfl, m2⟩
      go_wp2
      go_ret
      exact ⟨rfl, m1.trans m2⟩
end Go.Proofs.YtkcnbbjmkkaolaaGreatDoor
