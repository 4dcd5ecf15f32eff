/- What the frames of the statements share: behind a call that only makes memory a law's row holds. -/
import Derived.Test.YtcadkaedahoefaaRows
import Derived.Test.YtcadkaedahoefaaBase
import Derived.ProofKit
import Derived.OpenShut
import Derived.Deep.Slices
import Derived.Deep.Fields
namespace Go.Proofs.Ytcadkaedahoefaa
open Go.ChangeShapes Go.WideShapes Go.ChangeAt Go.RowKit
theorem own_knob : ownKnob Try.prog.godebug = none := by kernel_rfl
theorem laid_out : laidOutB Try.prog = true := by kernel_rfl

theorem trodAll_below {H : Type} {enc : TypeId × Value → H} {P : Program} (hl : laidOutB P = true) {W W' : World} (hb : Below W.heap.size W W') :
    ∀ (ts : List TypeId) (vs : List Value) (ds : List (DataW H)) (ps : List MemPlace), (∀ t ∈ ts, P.readableRec t = true ∧ t < P.types.size) → DataW.TrodAll enc P W 0 (fun _ => true) true ts vs ds ps → (∀ x ∈ ps, x.block < W.heap.size) →
      DataW.TrodAll enc P W' 0 (fun b => decide (b < W.heap.size)) true ts vs ds ps
  | [], vs, ds, ps, _, h, _ => by
    obtain ⟨rfl, rfl, rfl⟩ := trodAll_nil h
    exact trodAll_mk0
  | t :: ts, vs, ds, ps, ht, h, hlt => by
    obtain ⟨v0, vs0, d0, ds0, p0, q0, rfl, rfl, rfl, h0, r0⟩ := trodAll_cons h
    exact trodAll_cons_mk (Below.trod hl (ht t (List.mem_cons_self ..)).1 (ht t (List.mem_cons_self ..)).2 h0 hb (fun x hx => hlt x (List.mem_append_left _ hx)))
      (trodAll_below hl hb ts vs0 ds0 q0 (fun t ht' => ht t (List.mem_cons_of_mem _ ht')) r0 (fun x hx => hlt x (List.mem_append_right _ hx)))

/-- A LAW's ROW, behind a call that answers true and turns nothing that was there. -/
theorem law_post {H : Type} {enc : TypeId × Value → H} {f : Func} {s : ChangeSpec} {W W' : World} {args : Array Value} {ds gs : List (DataW H)} {before : List MemPlace}
    (hW : DataW.Whole enc Try.prog f.params.toList s.vars false W args.toList ds gs before) (hm : Mod (fun _ => False) W W')
    (hts0 : (f.params.toList.all fun t => Try.prog.readableRec t && decide (t < Try.prog.types.size)) = true) (hsv : s.vars = []) (hret : f.resultTypes = #[4])
    (hres : (s.fn H ds).results = [.lit (.bool true)]) (hargs : (s.fn H ds).args = ds) (hvs : (s.fn H ds).vars = []) :
    s.post enc Try.prog f false true false false W args (.bool true) W' := by
  have hlt : ∀ p ∈ before, p.block < W.heap.size := fun p hp => hW.lt p hp
  have hts : ∀ t ∈ f.params.toList, Try.prog.readableRec t = true ∧ t < Try.prog.types.size := fun t ht => by
    have := List.all_eq_true.1 hts0 t ht
    rw [Bool.and_eq_true] at this
    exact ⟨this.1, of_decide_eq_true this.2⟩
  obtain ⟨p, q, hA, hV, hpq, hfz, hnd⟩ := hW
  have hV0 := hV
  rw [hsv] at hV0
  obtain ⟨hg, hq⟩ := trodVars_none hV0
  have hds : ds ++ gs = ds := by rw [hg, List.append_nil]
  refine ⟨ds, gs, before, [], p, q, ⟨p, q, hA, hV, hpq, hfz, hnd⟩, ?_, ?_, ?_, hm.below.frame _, fun h => by cases h⟩
  all_goals rw [hds]
  · rw [hret, hres]
    exact trodAll_cons_mk (shut_bool Try.underlying4 true) trodAll_mk0
  · rw [hargs]
    exact trodAll_below laid_out hm.below _ _ _ _ hts hA (fun x hx => hlt x (by rw [hpq]; exact List.mem_append_left _ hx))
  · rw [hsv, hvs, hq]
    exact rfl
theorem addr_form {w : World} {a : Addr} {v : Value} (h : w.cell? a = some v) : a = ⟨a.block, a.off, none⟩ := by
  obtain ⟨b, o, sp⟩ := a
  cases sp with
  | none => rfl
  | some _ =>
    exfalso
    unfold World.cell? at h
    split at h
    · simp at h
    · cases h

theorem u64_of {x : Int} (h : (Lit.int .u64 x).wf = true) : ∃ y : Nat, x = y ∧ y < 18446744073709551616 := by
  simp [Lit.wf, IntKind.min, IntKind.max, IntKind.bits, IntKind.signed] at h
  exact ⟨x.toNat, by omega, by omega⟩
theorem i64_of {x : Int} (h : (Lit.int .i64 x).wf = true) : -9223372036854775808 ≤ x ∧ x ≤ 9223372036854775807 := by
  simp [Lit.wf, IntKind.min, IntKind.max, IntKind.bits, IntKind.signed] at h
  omega
theorem add_plain (g off x : Nat) : (⟨g, off, none⟩ : Addr).add x = ⟨g, off + x, none⟩ := by
  unfold Addr.add
  split
  · rename_i h; rw [h]; rfl
  · rfl
set_option maxRecDepth 100000 in
/-- an argument that is a slice, element by element: each element's cells, and that they read -/
theorem arg_slice {H : Type} {enc : TypeId × Value → H} {W : World} {base c0 : Nat} {t e : TypeId} {v : Value} {d : DataW H} {ps : List MemPlace} (ht : Try.prog.underlying t = some (.slice e)) (hc : Try.prog.cellsOf e = c0) (h0 : 0 < c0) (hval : Value.okWide Try.prog W .any base t v)
    (h : DataW.Trod enc Try.prog W 0 (fun _ => true) true t v d ps) : ∃ (a : Option Addr) (len cap : Nat) (row : Nat → List Value), v = .slice a len cap ∧ len ≤ maxLen ∧ ∀ i, i < len → (row i).length = c0 ∧
      (∃ g off, a = some ⟨g, off, none⟩ ∧ g < W.heap.size ∧ ∀ j, j < c0 → W.cell? ⟨g, off + (i * c0 + j), none⟩ = (row i)[j]?) ∧ ∃ n y, DataW.trod enc Try.prog W 0 (fun _ => true) true n e (row i) = some y := by
  subst hc
  obtain ⟨a0, len, cap, rfl⟩ := okWide_slice ht hval
  obtain ⟨fuel, hf⟩ := h
  rcases Go.Deep.open_slice ht hf with ⟨hcs, hx⟩ | ⟨a, len', cap', m, n, D, Pl, hcs, _, hl, hm, hmm, hx, hi⟩
  · simp only [Value.cells, List.cons.injEq, and_true] at hcs
    injection hcs with e1 e2 e3
    have hl0 : len ≤ maxLen := by rw [e2]; exact Nat.zero_le _
    exact ⟨a0, len, cap, fun _ => [], rfl, hl0, fun i hi => by omega⟩
  · simp only [Value.cells, List.cons.injEq, and_true] at hcs
    injection hcs with e1 e2 e3
    subst e1 e2 e3
    simp only [if_true] at hmm
    subst hmm
    have hex : ∀ i, ∃ cs', i < len → W.cells? 0 (a.add (i * Try.prog.cellsOf e)) (Try.prog.cellsOf e) = some cs' ∧ DataW.trod enc Try.prog W 0 (fun _ => true) true n e cs' = some (D i, Pl i) := by
      intro i
      by_cases h : i < len
      · obtain ⟨cs', h1, h2⟩ := hi i (by omega)
        exact ⟨cs', fun _ => ⟨h1, h2⟩⟩
      · exact ⟨[], fun x => absurd x h⟩
    refine ⟨some a, _, _, fun i => (hex i).choose, rfl, by omega, fun i hlt => ?_⟩
    obtain ⟨h1, h2⟩ := (hex i).choose_spec hlt
    obtain ⟨_, hlen, hat⟩ := World.cells?_some h1
    have hc0 := hat 0 h0
    rw [List.getElem?_eq_getElem (by omega)] at hc0
    have ha0 : ∃ g off, a = ⟨g, off, none⟩ := by
      have h00 := (hex 0).choose_spec (by omega)
      have hb := (World.cells?_some h00.1).2.2 0 h0
      rw [List.getElem?_eq_getElem (by have := (World.cells?_some h00.1).2.1; omega)] at hb
      have h3 := addr_form hb
      rw [Nat.zero_mul] at h3
      exact ⟨a.block, a.off, h3⟩
    obtain ⟨g, off, rfl⟩ := ha0
    have hadd : ∀ x y, ((⟨g, off, none⟩ : Addr).add x).add y = ⟨g, off + (x + y), none⟩ := fun x y => by
      rw [add_plain, add_plain, Nat.add_assoc]
    refine ⟨hlen, ⟨g, off, rfl, ?_, fun j hj => ?_⟩, n, _, h2⟩
    · have := World.block_lt_of_cell? _ _ hc0
      rw [hadd] at this
      exact this
    · have := hat j hj
      rw [hadd] at this
      exact this
end Go.Proofs.Ytcadkaedahoefaa
