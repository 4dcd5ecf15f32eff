/- Lists of texts as bytes: package code's writer, and the document's. -/
import Derived.Test.YthibakgnddmlfaaOwn
import Derived.Test.YthibakgnddmlfaaPut
namespace Go.Proofs.Ythibakgnddmlfaa
open Go.RowKit

def wTextsGo : List ByteArray → List UInt8 → Option (List UInt8)
  | [], acc => some acc
  | s :: r, acc => if 65535 < s.size then none else wTextsGo r (acc ++ (leBytes 2 s.size ++ s.data.toList))
/-- a list of texts: their number, then each with its length ahead -/
def wTexts (l : List ByteArray) : ByteArray × Int :=
  if 65535 < l.length then (ByteArray.empty, 4) else
  match wTextsGo l (leBytes 2 l.length) with
  | none => (ByteArray.empty, 4)
  | some a => (bs a, 0)
theorem wTexts_long {l : List ByteArray} (h : 65535 < l.length) : wTexts l = (ByteArray.empty, 4) := if_pos h
theorem wTexts_none {l : List ByteArray} (h : ¬ 65535 < l.length) (g : wTextsGo l (leBytes 2 l.length) = none) : wTexts l = (ByteArray.empty, 4) := by
  unfold wTexts; rw [if_neg h, g]
theorem wTexts_some {l : List ByteArray} {a : List UInt8} (h : ¬ 65535 < l.length) (g : wTextsGo l (leBytes 2 l.length) = some a) : wTexts l = (bs a, 0) := by
  unfold wTexts; rw [if_neg h, g]
theorem wText_long {s : ByteArray} (h : 65535 < s.size) : wText s = (ByteArray.empty, 4) := if_pos h
theorem wText_ok {s : ByteArray} (h : ¬ 65535 < s.size) : wText s = (bs (leBytes 2 s.size ++ s.data.toList), 0) := if_neg h
theorem wTextsGo_drop {l : List ByteArray} {k : Nat} (h : k < l.length) (acc : List UInt8) :
    wTextsGo (l.drop k) acc = if 65535 < (l[k]).size then none else wTextsGo (l.drop (k + 1)) (acc ++ (leBytes 2 (l[k]).size ++ (l[k]).data.toList)) := by
  rw [List.drop_eq_getElem_cons h]; rfl


set_option maxHeartbeats 1000000 in
theorem texts_w (l : List ByteArray) (v : Value) (w : World) (hsl : SlAt w (fun _ => True) v (l.map Value.string)) (hs : ∀ s ∈ l, s.size ≤ maxLen) (hll : l.length ≤ maxLen) :
    Calls Try.prog 12 #[v] w fun e w' => e = .returned (.tuple #[.string (wTexts l).1, .int .i64 (wTexts l).2]) ∧ Mod (fun _ => False) w w' := by
  unfold maxLen at hll
  obtain ⟨ao, cap, rfl, hle, hc⟩ := hsl.form
  rw [List.length_map] at *
  clear hsl
  have HC := Lib.hid hc; clear hc
  by_cases h1 : 65535 < l.length
  · have HW : Hid (wTexts l = (ByteArray.empty, 4)) := wTexts_long h1
    clear hle
    go_enter Try.func12, Try.ntmps12
    go_wp2
    go_ret2
    exact ⟨by rw [HW.out]; rfl, Mod.refl _ _⟩
  · have hlb : (bs (leBytes 2 l.length)).size = 2 := leBytes_length 2 _
    go_enter Try.func12, Try.ntmps12
    go_wp2_with fail
    refine (wU16 l.length _ (by omega) _).mono ?_
    rintro e w1 ⟨rfl, m1⟩
    obtain ⟨w2, vb, hcv, ho, m2⟩ := conv_own (P := Try.prog) w1 9 31 5 (bs (leBytes 2 l.length)) Try.underlying9 Try.underlying31 Try.underlying5
    have mc := m1.trans m2
    replace ho := ho.mono m1.size
    rw [bs_data, bs_size] at ho
    have HO := Lib.hid ho; clear ho
    go_wp2
    have ho := HO.out
    go_loopw [4, 19] (fun v i wr => ∃ (k : Nat) (acc : List UInt8), k ≤ l.length ∧ i = .int .i64 k ∧ OwnA wr w.heap.size 1 v acc.length (bc acc) ∧ Hid (wTextsGo l (leBytes 2 l.length) = wTextsGo (l.drop k) acc) ∧ acc.length ≤ 2 + k * 65537 ∧ Mod (fun _ => False) w wr) (fun _ i _ => l.length - (intOf i).toNat)
    case atStart => exact ⟨0, leBytes 2 l.length, Nat.zero_le _, rfl, ho, rfl, by rw [leBytes_length]; omega, mc⟩
    case round =>
      obtain ⟨k, acc, hk, rfl, hown, HG, hacc, mr⟩ := hrel
      by_cases hlt : k < l.length
      · obtain ⟨g, off, hao, _, hg, hc0⟩ := HC.out k _ (strs_get hlt)
        have hc : wr.cell? ⟨g, off + k, none⟩ = some (.string l[k]) := (World.cell?_of_block (a := ⟨g, off + k, none⟩) (mr.block g hg (fun x => x))).trans hc0
        clear hc0
        have hsk : (l[k]).size ≤ maxLen := hs _ (List.getElem_mem hlt)
        rw [wTextsGo_drop hlt] at HG
        generalize l[k] = t at *
        subst hao
        by_cases ht : 65535 < t.size
        · have HW : Hid (wTexts l = (ByteArray.empty, 4)) := wTexts_none h1 (HG.out.trans (if_pos ht))
          have HT : Hid (wText t = (ByteArray.empty, 4)) := wText_long ht
          go_wp2_with fail
          refine (text_w t _ hsk).mono ?_
          rintro e w3 ⟨rfl, m3⟩
          rw [HT.out]
          go_wp2
          go_ret2
          exact ⟨by rw [HW.out]; rfl, mr.trans m3⟩
        · rw [if_neg ht] at HG
          have HT : Hid (wText t = (bs (leBytes 2 t.size ++ t.data.toList), 0)) := wText_ok ht
          have hbz : (bs (leBytes 2 t.size ++ t.data.toList)).size = 2 + t.size := by rw [bs_size, List.length_append, leBytes_length, Array.length_toList]; rfl
          have HX : Hid ((bs (leBytes 2 t.size ++ t.data.toList)).data.toList = leBytes 2 t.size ++ t.data.toList) := rfl
          go_wp2_with fail
          refine (text_w t _ hsk).mono ?_
          rintro e w3 ⟨rfl, m3⟩
          rw [HT.out]
          have hown3 := hown.mod m3 (fun k _ x => x)
          generalize bs (leBytes 2 t.size ++ t.data.toList) = tb at *
          have C1 : Hid ((acc.length + tb.size) * 1 ≤ 140737488355328) := by show _ ≤ _; omega
          have C2 : Hid (acc.length + tb.size ≤ 9223372036854775807) := by show _ ≤ _; omega
          have C3 : Hid (w.heap.size ≤ w3.heap.size) := (mr.trans m3).size
          have HBZ := Lib.hid hbz; clear hbz
          go_wp2_with (refine wpl_append rfl (.tmp 31) (.tmp 32) _ _ rfl w.heap.size 5 (.int .u8 0) 1 1 Try.underlying31 info_u8 rfl (by decide) _ _ _ rfl hown3 _ _ _ rfl (src_string _ Try.underlying9 tb) C1.out C2.out C3.out ?_; intro v' w4 hown' hgrow)
          go_roundw
          case rel =>
            refine ⟨k + 1, acc ++ (leBytes 2 t.size ++ t.data.toList), hlt, by go_num, ?_, HG, ?_, hown3.thenMod (mr.trans m3) hgrow (Nat.le_refl _)⟩
            · have hl : (leBytes 2 t.size ++ t.data.toList).length = tb.size := by rw [← HX.out, Array.length_toList]; rfl
              rw [HX.out] at hown'
              rw [bc_append, List.length_append, hl]
              exact hown'
            · have hl : (leBytes 2 t.size ++ t.data.toList).length = tb.size := by rw [← HX.out, Array.length_toList]; rfl
              have := HBZ.out
              rw [List.length_append, hl]
              omega
          case measure => simp [intOf]; omega
      · rw [show l.drop k = [] from List.drop_eq_nil_of_le (by omega)] at HG
        have hcv := conv_ownS (P := Try.prog) 31 9 5 hown Try.underlying31 Try.underlying5 Try.underlying9
        have hfin : Hid (wTexts l = (bs acc, 0)) := wTexts_some (by omega) HG.out
        clear hown
        go_wp2
        go_ret2
        exact ⟨by rw [hfin.out]; rfl, mr⟩
set_option maxHeartbeats 1000000 in
theorem texts_r (l : List ByteArray) (v : Value) (w : World) (hsl : SlAt w (fun _ => True) v (l.map Value.string)) (hs : ∀ s ∈ l, s.size ≤ maxLen) (hll : l.length ≤ maxLen) :
    Calls Try.prog 15 #[v] w fun e w' => e = .returned (.tuple #[.string (wTexts l).1, .int .i64 (wTexts l).2]) ∧ Mod (fun _ => False) w w' := by
  unfold maxLen at hll
  obtain ⟨ao, cap, rfl, hle, hc⟩ := hsl.form
  rw [List.length_map] at *
  clear hsl
  have HC := Lib.hid hc; clear hc
  by_cases h1 : 65535 < l.length
  · have HW : Hid (wTexts l = (ByteArray.empty, 4)) := wTexts_long h1
    clear hle
    go_enter Try.func15, Try.ntmps15
    go_wp2
    go_ret2
    exact ⟨by rw [HW.out]; rfl, Mod.refl _ _⟩
  · go_enter Try.func15, Try.ntmps15
    go_wp2_with fail
    refine (rnum_any l.length 2 _ rfl _ (by omega) (by omega)).mono ?_
    rintro e w1 ⟨rfl, m1⟩
    go_wp2
    go_loopw [4, 5] (fun v i wr => ∃ (k : Nat) (acc : List UInt8), k ≤ l.length ∧ i = .int .i64 k ∧ v = .string (bs acc) ∧ Hid (wTextsGo l (leBytes 2 l.length) = wTextsGo (l.drop k) acc) ∧ acc.length ≤ 2 + k * 65537 ∧ Mod (fun _ => False) w wr) (fun _ i _ => l.length - (intOf i).toNat)
    case atStart => exact ⟨0, leBytes 2 l.length, Nat.zero_le _, rfl, rfl, rfl, by rw [leBytes_length]; omega, m1⟩
    case round =>
      obtain ⟨k, acc, hk, rfl, rfl, HG, hacc, mr⟩ := hrel
      by_cases hlt : k < l.length
      · obtain ⟨g, off, hao, _, hg, hc0⟩ := HC.out k _ (strs_get hlt)
        have hc : wr.cell? ⟨g, off + k, none⟩ = some (.string l[k]) := (World.cell?_of_block (a := ⟨g, off + k, none⟩) (mr.block g hg (fun x => x))).trans hc0
        clear hc0
        have hsk : (l[k]).size ≤ maxLen := hs _ (List.getElem_mem hlt)
        rw [wTextsGo_drop hlt] at HG
        generalize l[k] = t at *
        subst hao
        by_cases ht : 65535 < t.size
        · have HW : Hid (wTexts l = (ByteArray.empty, 4)) := wTexts_none h1 (HG.out.trans (if_pos ht))
          have HT : Hid (wText t = (ByteArray.empty, 4)) := wText_long ht
          go_wp2_with fail
          refine (text_r t _ hsk).mono ?_
          rintro e w3 ⟨rfl, m3⟩
          rw [HT.out]
          go_wp2
          go_ret2
          exact ⟨by rw [HW.out]; rfl, mr.trans m3⟩
        · rw [if_neg ht] at HG
          have HT : Hid (wText t = (bs (leBytes 2 t.size ++ t.data.toList), 0)) := wText_ok ht
          have hl : (leBytes 2 t.size ++ t.data.toList).length = 2 + t.size := by rw [List.length_append, leBytes_length, Array.length_toList]; rfl
          have hz : (bs acc).size + (bs (leBytes 2 t.size ++ t.data.toList)).size ≤ 9223372036854775807 := by rw [bs_size, bs_size, hl]; omega
          have HLn := Lib.hid hl; clear hl
          go_wp2_with fail
          refine (text_r t _ hsk).mono ?_
          rintro e w3 ⟨rfl, m3⟩
          rw [HT.out]
          generalize leBytes 2 t.size ++ t.data.toList = tl at *
          go_wp2
          go_roundw
          case rel => exact ⟨k + 1, acc ++ tl, hlt, by go_num, by rw [bs_cat], HG, by rw [List.length_append, HLn.out]; omega, mr.trans m3⟩
          case measure => simp [intOf]; omega
      · rw [show l.drop k = [] from List.drop_eq_nil_of_le (by omega)] at HG
        have hfin : Hid (wTexts l = (bs acc, 0)) := wTexts_some (by omega) HG.out
        go_wp2
        go_ret2
        exact ⟨by rw [hfin.out]; rfl, mr⟩
end Go.Proofs.Ythibakgnddmlfaa
