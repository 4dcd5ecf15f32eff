/- Maps that a call owns, with their size: store, delete, len, range. -/
import Derived.Test.YtcadkaedahoefaaMapFun
import Derived.Maps.RangeWalk
namespace Go.Proofs.Ytcadkaedahoefaa
open Go.RowKit

def MapS {κ : Type} (P : Program) (k : TypeId) (enc : κ → Lit) (w : World) (b n : Nat) (f : κ → Option Value) (s : Nat) : Prop :=
  ∃ D : DataW Value, w.ownsMap P k heldR b n D ∧ (∀ x, Maps.has D (enc x) = (f x).isSome ∧ ∀ z, D.atKey (enc x) z = match f x with | some v => .held v | none => z) ∧ Maps.size D = s
section
variable {κ : Type} {P : Program} {k e t : TypeId} {enc : κ → Lit} {w w' : World} {b n s : Nat} {f : κ → Option Value}
theorem MapS.mapF (h : MapS P k enc w b n f s) : MapF P k enc w b n f := by
  obtain ⟨D, h1, h2, _⟩ := h
  exact ⟨D, h1, h2⟩
theorem MapS.made (w : World) (P : Program) (k : TypeId) (enc : κ → Lit) : MapS P k enc (w.alloc (.map #[] 0)) w.heap.size 0 (fun _ => none) 0 :=
  ⟨_, World.ownsMap_made w P k heldR, fun _ => ⟨rfl, fun _ => rfl⟩, rfl⟩
theorem MapS.lt (h : MapS P k enc w b n f s) : b < w.heap.size := h.mapF.lt
theorem MapS.same (h : MapS P k enc w b n f s) (hk : w'.heap[b]? = w.heap[b]?) : MapS P k enc w' b n f s := by
  obtain ⟨D, ⟨es, c, hb, r⟩, hf⟩ := h
  exact ⟨D, ⟨es, c, hk.trans hb, r⟩, hf⟩
theorem MapS.mod {S : Nat → Prop} (h : MapS P k enc w b n f s) (hm : Mod S w w') (hs : ¬ S b) : MapS P k enc w' b n f s := h.same (hm.block b h.lt hs)
theorem MapS.congr {g : κ → Option Value} {s' : Nat} (h : MapS P k enc w b n f s) (hg : ∀ x, g x = f x) (hs : s' = s) : MapS P k enc w b n g s' := by
  obtain ⟨D, ho, hf, hz⟩ := h
  exact ⟨D, ho, fun x => by rw [hg x]; exact hf x, by rw [hs]; exact hz⟩
theorem MapS.len (h : MapS P k enc w b n f s) (ht : P.underlying t = some (.map k e)) (ty : TypeId) : (Builtin.len_ #[t] ty #[.map (some b)]).run P w = .ok (.int .i64 s) w := by
  obtain ⟨D, ho, _, hz⟩ := h
  rw [ho.len ht ty, hz]
theorem MapS.le (h : MapS P k enc w b n f s) : s ≤ n := by
  obtain ⟨D, ho, _, hz⟩ := h
  rw [← hz]; exact ho.size_le
theorem mod_turned {w w' : World} {b : Nat} (h : w.mapTurned w' b) : Mod (· = b) w w' := by
  have hg := h.grown
  exact ⟨hg.os, hg.tape, hg.output, hg.size, fun j hj hs => hg.block j hj (fun e => hs (by injection e))⟩
theorem MapS.store [DecidableEq κ] (h : MapS P k enc w b n f s) (hinj : ∀ x y, enc x = enc y → x = y) (K : Maps.Keyed P k) (ht : P.underlying t = some (.map k e)) (hn : n < maxLen) {key v : Value} {x : κ} (hkey : keyOf P k key = some (enc x)) :
    ∃ w', (Instr.mapUpdate t (.map (some b)) key v).run P w = .ok () w' ∧ MapS P k enc w' b (n + 1) (fun y => if y = x then some v else f y) (if (f x).isSome = true then s else s + 1) ∧ Mod (· = b) w w' := by
  obtain ⟨D, ho, hf, hz⟩ := h
  obtain ⟨w', hrun, ho', hg⟩ := ho.store K ht hn hkey (val := v) (d := .held v) (ps := []) rfl
  refine ⟨w', hrun, ⟨_, ho', fun y => ?_, ?_⟩, mod_turned hg⟩
  · by_cases hy : y = x
    · subst hy
      have hv : (fun z => if z = y then some v else f z) y = some v := if_pos rfl
      rw [hv]
      exact ⟨Maps.has_put_same ho.isMap (K.key hkey) _, fun z => Maps.atKey_put_same ho.isMap (K.key hkey) _ z⟩
    · have hv : (fun z => if z = x then some v else f z) y = f y := if_neg hy
      rw [hv, Maps.has_put_other (fun e => hy (hinj _ _ e))]
      exact ⟨(hf y).1, fun z => by rw [Maps.atKey_put_other (fun e => hy (hinj _ _ e))]; exact (hf y).2 z⟩
  · rw [Maps.size_put (ho.tidy K), (hf x).1, hz]
theorem MapS.drop [DecidableEq κ] (h : MapS P k enc w b n f s) (hinj : ∀ x y, enc x = enc y → x = y) (K : Maps.Keyed P k) (ht : P.underlying t = some (.map k e)) {key : Value} {x : κ} (hkey : keyOf P k key = some (enc x)) (ty : TypeId) :
    ∃ w', (Builtin.delete_ #[t, k] ty #[.map (some b), key]).run P w = .ok (.tuple #[]) w' ∧ MapS P k enc w' b n (fun y => if y = x then none else f y) (if (f x).isSome = true then s - 1 else s) ∧ Mod (· = b) w w' := by
  obtain ⟨D, ho, hf, hz⟩ := h
  obtain ⟨w', hrun, ho', hg⟩ := ho.drop K ht hkey ty
  refine ⟨w', hrun, ⟨_, ho', fun y => ?_, ?_⟩, mod_turned hg⟩
  · by_cases hy : y = x
    · subst hy
      have hv : (fun z => if z = y then none else f z) y = none := if_pos rfl
      rw [hv]
      exact ⟨Maps.has_del_same, fun z => Maps.atKey_del_same z⟩
    · have hv : (fun z => if z = x then none else f z) y = f y := if_neg hy
      rw [hv, Maps.has_del_other (fun e => hy (hinj _ _ e))]
      exact ⟨(hf y).1, fun z => by rw [Maps.atKey_del_other (fun e => hy (hinj _ _ e))]; exact (hf y).2 z⟩
  · have := Maps.size_del (ho.tidy K) (k := enc x)
    rw [(hf x).1, hz] at this
    split
    · rename_i h; rw [if_pos h] at this; omega
    · rename_i h; rw [if_neg h] at this; omega
end
def encU32 (p : Nat) : Lit := .int .u32 p
theorem encU32_inj (x y : Nat) (h : encU32 x = encU32 y) : x = y := by
  unfold encU32 at h
  injection h with _ h
  omega
theorem key_u32 {P : Program} {k : TypeId} (hk : P.underlying k = some (.int .u32)) {p : Nat} (hp : p < 4294967296) : keyOf P k (.int .u32 p) = some (encU32 p) := by
  refine Maps.keyOf_int_mk hk ?_
  show (decide ((0 : Int) ≤ p) && decide ((p : Int) ≤ 4294967295)) = true
  simp
  omega
end Go.Proofs.Ytcadkaedahoefaa
