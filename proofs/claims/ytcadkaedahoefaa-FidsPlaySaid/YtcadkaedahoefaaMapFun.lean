/- Maps that a call makes, as plain functions of their keys. -/
import Derived.Test.YtcadkaedahoefaaBase
import Derived.Maps.OwnSet
namespace Go.Proofs.Ytcadkaedahoefaa
open Go.RowKit

def heldR (v : Value) : Option (DataW Value × List MemPlace) := some (.held v, [])
/-- block b is a map of at most n entries, that has f at its keys -/
def MapF {κ : Type} (P : Program) (k : TypeId) (enc : κ → Lit) (w : World) (b n : Nat) (f : κ → Option Value) : Prop :=
  ∃ D : DataW Value, w.ownsMap P k heldR b n D ∧ ∀ x, Maps.has D (enc x) = (f x).isSome ∧ ∀ z, D.atKey (enc x) z = match f x with | some v => .held v | none => z

section
variable {κ : Type} {P : Program} {k e t : TypeId} {enc : κ → Lit} {w w' : World} {b n : Nat} {f : κ → Option Value}
theorem MapF.made (w : World) (P : Program) (k : TypeId) (enc : κ → Lit) : MapF P k enc (w.alloc (.map #[] 0)) w.heap.size 0 (fun _ => none) :=
  ⟨_, World.ownsMap_made w P k heldR, fun _ => ⟨rfl, fun _ => rfl⟩⟩
theorem MapF.obj (h : MapF P k enc w b n f) : ∃ es c, w.heap[b]? = some (.map es c) := by
  obtain ⟨D, ⟨es, c, hb, _⟩, _⟩ := h
  exact ⟨es, c, hb⟩
theorem MapF.same (h : MapF P k enc w b n f) (hk : w'.heap[b]? = w.heap[b]?) : MapF P k enc w' b n f := by
  obtain ⟨D, ⟨es, c, hb, r⟩, hf⟩ := h
  exact ⟨D, ⟨es, c, hk.trans hb, r⟩, hf⟩
theorem MapF.lt (h : MapF P k enc w b n f) : b < w.heap.size := by
  obtain ⟨es, c, hb⟩ := h.obj
  exact lt_of hb
theorem MapF.mod {S : Nat → Prop} (h : MapF P k enc w b n f) (hm : Mod S w w') (hs : ¬ S b) : MapF P k enc w' b n f := h.same (hm.block b h.lt hs)
theorem MapF.congr {g : κ → Option Value} (h : MapF P k enc w b n f) (hg : ∀ x, g x = f x) : MapF P k enc w b n g := by
  obtain ⟨D, ho, hf⟩ := h
  exact ⟨D, ho, fun x => by rw [hg x]; exact hf x⟩
theorem MapF.look_ok (h : MapF P k enc w b n f) (K : Maps.Keyed P k) (ht : P.underlying t = some (.map k e)) {z : Value} (hz : (zeroValue e).run P w = .ok z w) {key : Value} {x : κ} (hkey : keyOf P k key = some (enc x)) :
    (Instr.lookup t (.map (some b)) key true).run P w = .ok (.tuple #[(f x).getD z, .bool (f x).isSome]) w := by
  obtain ⟨D, ho, hf⟩ := h
  obtain ⟨v, ps, hrun, hv⟩ := ho.look_ok K ht hz (zd := .held z) (zp := []) rfl hkey
  rw [hrun, (hf x).1]
  rw [(hf x).2] at hv
  have : v = (f x).getD z := by
    unfold heldR at hv
    cases hfx : f x with
    | none => rw [hfx] at hv; cases hv; rfl
    | some u => rw [hfx] at hv; cases hv; rfl
  rw [this]
theorem MapF.look (h : MapF P k enc w b n f) (K : Maps.Keyed P k) (ht : P.underlying t = some (.map k e)) {z : Value} (hz : (zeroValue e).run P w = .ok z w) {key : Value} {x : κ} (hkey : keyOf P k key = some (enc x)) :
    (Instr.lookup t (.map (some b)) key false).run P w = .ok ((f x).getD z) w := by
  obtain ⟨D, ho, hf⟩ := h
  obtain ⟨v, ps, hrun, hv⟩ := ho.lookup K ht hz (zd := .held z) (zp := []) rfl hkey
  rw [hrun]
  rw [(hf x).2] at hv
  have : v = (f x).getD z := by
    unfold heldR at hv
    cases hfx : f x with
    | none => rw [hfx] at hv; cases hv; rfl
    | some u => rw [hfx] at hv; cases hv; rfl
  rw [this]
theorem MapF.store [DecidableEq κ] (h : MapF P k enc w b n f) (hinj : ∀ x y, enc x = enc y → x = y) (K : Maps.Keyed P k) (ht : P.underlying t = some (.map k e)) (hn : n < maxLen) {key v : Value} {x : κ} (hkey : keyOf P k key = some (enc x)) :
    ∃ w', (Instr.mapUpdate t (.map (some b)) key v).run P w = .ok () w' ∧ MapF P k enc w' b (n + 1) (fun y => if y = x then some v else f y) ∧ Mod (· = b) w w' := by
  obtain ⟨D, ho, hf⟩ := h
  obtain ⟨w', hrun, ho', hg⟩ := ho.update K ht hn hkey (val := v) (d := .held v) (ps := []) rfl
  refine ⟨w', hrun, ⟨_, ho', fun y => ?_⟩, ⟨hg.os, hg.tape, hg.output, hg.size, fun j hj hs => hg.block j hj (fun e => hs (by injection e))⟩⟩
  by_cases hy : y = x
  · subst hy
    have hv : (fun z => if z = y then some v else f z) y = some v := if_pos rfl
    rw [hv]
    exact ⟨Maps.has_put_same ho.isMap (K.key hkey) _, fun z => Maps.atKey_put_same ho.isMap (K.key hkey) _ z⟩
  · have hv : (fun z => if z = x then some v else f z) y = f y := if_neg hy
    rw [hv, Maps.has_put_other (fun e => hy (hinj _ _ e))]
    exact ⟨(hf y).1, fun z => by rw [Maps.atKey_put_other (fun e => hy (hinj _ _ e))]; exact (hf y).2 z⟩
end
def encStr (s : ByteArray) : Lit := .string s.data.toList
theorem encStr_inj (x y : ByteArray) (h : encStr x = encStr y) : x = y := by
  unfold encStr at h
  injection h with h
  exact ByteArray.ext (Array.ext' h)
def encU64 (p : Nat) : Lit := .int .u64 p
theorem encU64_inj (x y : Nat) (h : encU64 x = encU64 y) : x = y := by
  unfold encU64 at h
  injection h with _ h
  omega
theorem key_str {P : Program} {k : TypeId} (hk : P.underlying k = some .string) {s : ByteArray} (hs : s.size ≤ maxLen) : keyOf P k (.string s) = some (encStr s) := WideMaps.keyOf_string_mk hk hs
theorem key_u64 {P : Program} {k : TypeId} (hk : P.underlying k = some (.int .u64)) {p : Nat} (hp : p < 18446744073709551616) : keyOf P k (.int .u64 p) = some (encU64 p) := by
  refine Maps.keyOf_int_mk hk ?_
  show (decide ((0 : Int) ≤ p) && decide ((p : Int) ≤ 18446744073709551615)) = true
  simp
  omega
end Go.Proofs.Ytcadkaedahoefaa
