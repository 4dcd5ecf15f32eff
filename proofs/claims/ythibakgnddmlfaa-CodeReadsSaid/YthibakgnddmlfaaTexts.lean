/- The reader's lists of texts. -/
import Derived.Test.YthibakgnddmlfaaRd2
import Derived.Test.YthibakgnddmlfaaRef
import Derived.Deep.DeepCutAuto
import Derived.Deep.LoopGhost
namespace Go.Proofs.Ythibakgnddmlfaa
open Go.RowKit



set_option maxHeartbeats 1000000 in
theorem texts_any (b : Nat) (r : Rd) (most : Int) (w : World) (h : w.heap[b]? = some (rdO r)) (hs : r.s.size ≤ maxLen) (hat : r.at_ ≤ r.s.size) :
    Calls Try.prog 35 #[.pointer (some ⟨b, 0, none⟩), .int .i64 most] w fun e w' => ∃ v, e = .returned v ∧ SlAt w' (w.heap.size ≤ ·) v ((r.texts most).1.map Value.string) ∧
      w'.heap[b]? = some (rdO (r.texts most).2) ∧ Mod (· = b) w w' := by
  obtain ⟨s, at_, f⟩ := r
  simp only at hs hat
  have h0 := Lib.hid h
  have hnl : (Rd.num ⟨s, at_, f⟩ 2).1 < 65536 := Rd.num_lt _ 2
  have c0 : w.cell? ⟨b, 0, none⟩ = some (.string s) := (cell_of h 0).trans rfl
  have c1 : w.cell? ⟨b, 1, none⟩ = some (.int .i64 at_) := (cell_of h 1).trans rfl
  have c2 : w.cell? ⟨b, 2, none⟩ = some (.int .i64 f) := (cell_of h 2).trans rfl
  have c3 : w.cell? ⟨b, 3, none⟩ = some (.bool true) := (cell_of h 3).trans rfl
  have f1 : w.frozen? ⟨b, 1, none⟩ = false := free_of h 1
  have f2 : w.frozen? ⟨b, 2, none⟩ = false := free_of h 2
  have H := Lib.hid h; clear h
  go_enter_defers Try.func35, Try.ntmps35
  go_wp2_with fail
  refine (U16_any b _ _ h0.out hs hat).mono ?_
  rintro e w1 ⟨rfl, h1, m1⟩
  have HS : Hid ((Rd.num ⟨s, at_, f⟩ 2).2.s = s ∧ (Rd.num ⟨s, at_, f⟩ 2).2.at_ ≤ s.size) := ⟨Rd.num_s _ 2, by have := Rd.num_at ⟨s, at_, f⟩ 2 hat; rwa [Rd.num_s] at this⟩
  have HT : Hid ((Rd.texts ⟨s, at_, f⟩ most) = (((Rd.textsGo (Rd.num ⟨s, at_, f⟩ 2).1 ((Rd.num ⟨s, at_, f⟩ 2).2.cap (Rd.num ⟨s, at_, f⟩ 2).1 most) []).1.getD []), (Rd.textsGo (Rd.num ⟨s, at_, f⟩ 2).1 ((Rd.num ⟨s, at_, f⟩ 2).2.cap (Rd.num ⟨s, at_, f⟩ 2).1 most) []).2.keep at_)) := rfl
  generalize (Rd.num ⟨s, at_, f⟩ 2).2 = r1 at *
  generalize (Rd.num ⟨s, at_, f⟩ 2).1 = n at *
  obtain ⟨s1, a1, q1⟩ := r1
  have H1 := Lib.hid h1
  have d0 : w1.cell? ⟨b, 0, none⟩ = some (.string s1) := (cell_of h1 0).trans rfl
  have d2 : w1.cell? ⟨b, 2, none⟩ = some (.int .i64 q1) := (cell_of h1 2).trans rfl
  have e2 : w1.frozen? ⟨b, 2, none⟩ = false := free_of h1 2
  clear h1
  have e1 : w1.frozen? ⟨b, 1, none⟩ = false := free_of H1.out 1
  obtain ⟨i0, hi, hz0, hz1, hz2⟩ := info_parts info_string
  have ht : b < w.heap.size := lt_of h0.out
  have key : ∀ r2 : Rd, Hid (Rd.cap ⟨s1, a1, q1⟩ n most = r2) → Hid (r2.s = s ∧ r2.at_ ≤ s.size) := by
    intro r2 h2
    rw [← h2.out]
    exact ⟨(cap_s _ _ _).trans HS.out.1, by rw [cap_at]; exact HS.out.2⟩
  have key := Lib.hid key
  by_cases g1 : q1 = 0
  · have g1' : (q1 == 0) = true := by simp [g1]
    subst g1
    by_cases g2 : max most 0 < (n : Int)
    · have HC : Hid (Rd.cap ⟨s1, a1, 0⟩ n most = ⟨s1, a1, 4⟩) := if_pos ⟨rfl, g2⟩
      have HR := key.out _ HC
      have H2 : Hid ((w1.setCell ⟨b, 2, none⟩ (.int .i64 4)).heap[b]? = some (rdO ⟨s1, a1, 4⟩)) := heap_set H1.out 2 _
      have m2 : Mod (· = b) w (w1.setCell ⟨b, 2, none⟩ (.int .i64 4)) := m1.trans (Mod.set1 _ _ _ _)
      clear key
      go_wp2
      all_goals
        rw [HC.out] at HT
        clear HC d0 d2 e1 e2 c0 c1 c2 c3 f1 f2 H h0
        go_loopw [4, 38] (fun v i wr => ∃ (k : Nat) (l : List ByteArray) (rk : Rd), k ≤ n ∧ i = .int .i64 k ∧ wr.ownsRow w.heap.size 9 1 v l.length (l.map Value.string) ∧ Hid (wr.heap[b]? = some (rdO rk)) ∧ Hid (rk.s = s ∧ rk.at_ ≤ s.size) ∧ Hid (Rd.textsGo n _ [] = Rd.textsGo (n - k) rk l) ∧ Hid (l.length = k) ∧ Mod (· = b) w wr) (fun _ i _ => n - (intOf i).toNat)
        case atStart => exact ⟨0, [], _, Nat.zero_le _, rfl, World.ownsRow_nil _ _ _ _, H2, HR, rfl, rfl, m2⟩
        case round =>
          obtain ⟨k, l, rk, hk, rfl, hown, HB, HRk, HG, HLn, mr⟩ := hrel
          by_cases hlt : k < n
          · have hlt' := hlt
            have hb : b < wr.heap.size := lt_of HB.out
            have HX : Hid (Rd.textsGo (n - k) rk l = if rk.text.2.f ≠ 0 then (none, rk.text.2) else Rd.textsGo (n - (k + 1)) rk.text.2 (l ++ [rk.text.1])) := by
              show _ = _
              rw [show n - k = (n - (k + 1)) + 1 from by omega]; rfl
            have HRt : Hid (rk.text.2.s = s ∧ rk.text.2.at_ ≤ s.size) := ⟨(Rd.text_s rk).trans HRk.out.1, by have := Rd.text_at rk (by rw [HRk.out.1]; exact HRk.out.2); rwa [Rd.text_s, HRk.out.1] at this⟩
            go_wp2_with fail
            refine (text_any b rk _ HB.out (by rw [HRk.out.1]; exact hs) (by rw [HRk.out.1]; exact HRk.out.2)).mono ?_
            rintro e w2 ⟨rfl, hT2, mT⟩
            have HB2 := Lib.hid hT2; clear hT2
            generalize rk.text.2 = rt at *
            generalize rk.text.1 = t at *
            have hown2 := owns_mod hown mT (fun k hk e => by omega)
            have hlen : l.length = k := HLn.out
            have hsz2 : w.heap.size ≤ w2.heap.size := (mr.trans mT).size
            have HLk := Lib.hid hlen; clear hlen
            have hlb : l.length ≤ 65536 := by rw [HLk.out]; omega
            have C2 : Hid (∀ u ∈ ([Value.string t] : List Value), u.oneCell' = true) := by intro u hu; rcases List.mem_singleton.1 hu with rfl; rfl
            have C3 : Hid (l.length + 1 ≤ maxLen) := by show _ ≤ _; unfold maxLen; omega
            have C4 : Hid ((l.length + 1) * 16 ≤ 140737488355328) := by show _ ≤ _; omega
            have C5 : Hid (w.heap.size ≤ (w2.alloc (.cells #[.string t] 9)).heap.size) := by show _ ≤ _; rw [World.size_alloc]; omega
            go_wp2_with (at_builtin; go_must (refine wpList_append_own _ rfl _ _ 29 rfl w.heap.size 9 i0 (.string ByteArray.empty) 1 16 Try.underlying29 hi hz0 hz1 hz2 rfl (by decide) _ _ _ rfl (hown2.alloc _) ⟨w2.heap.size, 0, none⟩ 1 1 [.string t] rfl rfl (new_one _ _ _) C2.out C3.out C4.out C5.out ?_); intro v' w3 hown' hgrow _; have HB3 : Hid (w3.heap[b]? = some (rdO rt)) := (grow_keep hown2 hgrow ht (Nat.lt_of_lt_of_le hb mT.size)).trans HB2.out; have d3 : w3.cell? ⟨b, 2, none⟩ = some (.int .i64 rt.f) := (cell_of HB3.out 2).trans rfl; have m3 := grow_mod (mr.trans mT) hown2 hgrow (Nat.le_refl _))
            · refine leaves_cons (f := 50) (args := #[.pointer (some ⟨b, 0, none⟩), .int .i64 at_]) (by simp) (by simp [go_sem]) ?_
              refine (keep_deferred b at_ rt .returning _ HB3.out).mono ?_
              rintro e u' w4 ⟨rfl, rfl, h4, m4⟩
              have hr : (Rd.texts ⟨s, at_, f⟩ most) = ([], rt.keep at_) := by
                rw [HT.out, HG.out, HX.out, if_pos (by simpa using ‹(rt.f != 0) = true›)]; rfl
              rw [hr]
              exact ⟨.slice none 0 0, res1 rfl rfl, _, rfl, .inl ⟨rfl, _, _, rfl⟩, h4, m3.trans m4⟩
            · go_roundw
              case rel =>
                have hz : ¬ rt.f ≠ 0 := by simpa using ‹(rt.f != 0) = false›
                refine ⟨k + 1, l ++ [t], rt, by omega, by go_num, by simpa using hown', HB3, HRt, ?_, by show _ = _; rw [List.length_append, HLk.out]; rfl, m3⟩
                show _ = _
                rw [HG.out, HX.out, if_neg hz]
              case measure => simp [intOf]; omega
          · have hr : Hid ((Rd.texts ⟨s, at_, f⟩ most) = (l, rk.keep at_)) := by
              show _ = _
              rw [HT.out, HG.out, show n - k = 0 from by omega]; rfl
            have hsl := SlAt.of_owns hown
            rcases hown.2 with ⟨rfl, hn⟩ | ⟨g, cap, cur, rfl, hg, hcur, hle, hm, hsz, htk⟩
            · have HN := Lib.hid hn; clear hn
              go_wp2
              refine leaves_cons (f := 50) (args := #[.pointer (some ⟨b, 0, none⟩), .int .i64 at_]) (by simp) (by simp [go_sem]) ?_
              refine (keep_deferred b at_ rk .returning _ HB.out).mono ?_
              rintro e u' w4 ⟨rfl, rfl, h4, m4⟩
              rw [hr.out]
              refine ⟨.slice none 0 0, res1 rfl rfl, _, rfl, ?_, h4, mr.trans m4⟩
              exact hsl.mod m4 (fun g hg _ e => by omega)
            · have hgl := lt_of hcur
              clear hcur hm hsz htk
              go_wp2
              refine leaves_cons (f := 50) (args := #[.pointer (some ⟨b, 0, none⟩), .int .i64 at_]) (by simp) (by simp [go_sem]) ?_
              refine (keep_deferred b at_ rk .returning _ HB.out).mono ?_
              rintro e u' w4 ⟨rfl, rfl, h4, m4⟩
              rw [hr.out]
              refine ⟨.slice (some ⟨g, 0, none⟩) l.length l.length, res1 rfl rfl, _, rfl, ?_, h4, mr.trans m4⟩
              exact (hsl.mod m4 (fun g hg _ e => by omega)).recap (by rw [List.length_map]; exact Nat.le_refl _)
    · have HC : Hid (Rd.cap ⟨s1, a1, 0⟩ n most = ⟨s1, a1, 0⟩) := if_neg (fun x => g2 x.2)
      have HR := key.out _ HC
      have H2 := H1
      have m2 := m1
      clear key
      by_cases g3 : most < 0
      · go_wp2
        rw [HC.out] at HT
        clear HC d0 d2 e1 e2 c0 c1 c2 c3 f1 f2 H h0
        go_loopw [4, 38] (fun v i wr => ∃ (k : Nat) (l : List ByteArray) (rk : Rd), k ≤ n ∧ i = .int .i64 k ∧ wr.ownsRow w.heap.size 9 1 v l.length (l.map Value.string) ∧ Hid (wr.heap[b]? = some (rdO rk)) ∧ Hid (rk.s = s ∧ rk.at_ ≤ s.size) ∧ Hid (Rd.textsGo n _ [] = Rd.textsGo (n - k) rk l) ∧ Hid (l.length = k) ∧ Mod (· = b) w wr) (fun _ i _ => n - (intOf i).toNat)
        case atStart => exact ⟨0, [], _, Nat.zero_le _, rfl, World.ownsRow_nil _ _ _ _, H2, HR, rfl, rfl, m2⟩
        case round =>
          obtain ⟨k, l, rk, hk, rfl, hown, HB, HRk, HG, HLn, mr⟩ := hrel
          by_cases hlt : k < n
          · have hlt' := hlt
            exfalso; omega
          · have hr : Hid ((Rd.texts ⟨s, at_, f⟩ most) = (l, rk.keep at_)) := by
              show _ = _
              rw [HT.out, HG.out, show n - k = 0 from by omega]; rfl
            have hsl := SlAt.of_owns hown
            rcases hown.2 with ⟨rfl, hn⟩ | ⟨g, cap, cur, rfl, hg, hcur, hle, hm, hsz, htk⟩
            · have HN := Lib.hid hn; clear hn
              go_wp2
              refine leaves_cons (f := 50) (args := #[.pointer (some ⟨b, 0, none⟩), .int .i64 at_]) (by simp) (by simp [go_sem]) ?_
              refine (keep_deferred b at_ rk .returning _ HB.out).mono ?_
              rintro e u' w4 ⟨rfl, rfl, h4, m4⟩
              rw [hr.out]
              refine ⟨.slice none 0 0, res1 rfl rfl, _, rfl, ?_, h4, mr.trans m4⟩
              exact hsl.mod m4 (fun g hg _ e => by omega)
            · have hgl := lt_of hcur
              clear hcur hm hsz htk
              go_wp2
              refine leaves_cons (f := 50) (args := #[.pointer (some ⟨b, 0, none⟩), .int .i64 at_]) (by simp) (by simp [go_sem]) ?_
              refine (keep_deferred b at_ rk .returning _ HB.out).mono ?_
              rintro e u' w4 ⟨rfl, rfl, h4, m4⟩
              rw [hr.out]
              refine ⟨.slice (some ⟨g, 0, none⟩) l.length l.length, res1 rfl rfl, _, rfl, ?_, h4, mr.trans m4⟩
              exact (hsl.mod m4 (fun g hg _ e => by omega)).recap (by rw [List.length_map]; exact Nat.le_refl _)
      · go_wp2
        rw [HC.out] at HT
        clear HC d0 d2 e1 e2 c0 c1 c2 c3 f1 f2 H h0
        go_loopw [4, 38] (fun v i wr => ∃ (k : Nat) (l : List ByteArray) (rk : Rd), k ≤ n ∧ i = .int .i64 k ∧ wr.ownsRow w.heap.size 9 1 v l.length (l.map Value.string) ∧ Hid (wr.heap[b]? = some (rdO rk)) ∧ Hid (rk.s = s ∧ rk.at_ ≤ s.size) ∧ Hid (Rd.textsGo n _ [] = Rd.textsGo (n - k) rk l) ∧ Hid (l.length = k) ∧ Mod (· = b) w wr) (fun _ i _ => n - (intOf i).toNat)
        case atStart => exact ⟨0, [], _, Nat.zero_le _, rfl, World.ownsRow_nil _ _ _ _, H2, HR, rfl, rfl, m2⟩
        case round =>
          obtain ⟨k, l, rk, hk, rfl, hown, HB, HRk, HG, HLn, mr⟩ := hrel
          by_cases hlt : k < n
          · have hlt' := hlt
            have hb : b < wr.heap.size := lt_of HB.out
            have HX : Hid (Rd.textsGo (n - k) rk l = if rk.text.2.f ≠ 0 then (none, rk.text.2) else Rd.textsGo (n - (k + 1)) rk.text.2 (l ++ [rk.text.1])) := by
              show _ = _
              rw [show n - k = (n - (k + 1)) + 1 from by omega]; rfl
            have HRt : Hid (rk.text.2.s = s ∧ rk.text.2.at_ ≤ s.size) := ⟨(Rd.text_s rk).trans HRk.out.1, by have := Rd.text_at rk (by rw [HRk.out.1]; exact HRk.out.2); rwa [Rd.text_s, HRk.out.1] at this⟩
            go_wp2_with fail
            refine (text_any b rk _ HB.out (by rw [HRk.out.1]; exact hs) (by rw [HRk.out.1]; exact HRk.out.2)).mono ?_
            rintro e w2 ⟨rfl, hT2, mT⟩
            have HB2 := Lib.hid hT2; clear hT2
            generalize rk.text.2 = rt at *
            generalize rk.text.1 = t at *
            have hown2 := owns_mod hown mT (fun k hk e => by omega)
            have hlen : l.length = k := HLn.out
            have hsz2 : w.heap.size ≤ w2.heap.size := (mr.trans mT).size
            have HLk := Lib.hid hlen; clear hlen
            have hlb : l.length ≤ 65536 := by rw [HLk.out]; omega
            have C2 : Hid (∀ u ∈ ([Value.string t] : List Value), u.oneCell' = true) := by intro u hu; rcases List.mem_singleton.1 hu with rfl; rfl
            have C3 : Hid (l.length + 1 ≤ maxLen) := by show _ ≤ _; unfold maxLen; omega
            have C4 : Hid ((l.length + 1) * 16 ≤ 140737488355328) := by show _ ≤ _; omega
            have C5 : Hid (w.heap.size ≤ (w2.alloc (.cells #[.string t] 9)).heap.size) := by show _ ≤ _; rw [World.size_alloc]; omega
            go_wp2_with (at_builtin; go_must (refine wpList_append_own _ rfl _ _ 29 rfl w.heap.size 9 i0 (.string ByteArray.empty) 1 16 Try.underlying29 hi hz0 hz1 hz2 rfl (by decide) _ _ _ rfl (hown2.alloc _) ⟨w2.heap.size, 0, none⟩ 1 1 [.string t] rfl rfl (new_one _ _ _) C2.out C3.out C4.out C5.out ?_); intro v' w3 hown' hgrow _; have HB3 : Hid (w3.heap[b]? = some (rdO rt)) := (grow_keep hown2 hgrow ht (Nat.lt_of_lt_of_le hb mT.size)).trans HB2.out; have d3 : w3.cell? ⟨b, 2, none⟩ = some (.int .i64 rt.f) := (cell_of HB3.out 2).trans rfl; have m3 := grow_mod (mr.trans mT) hown2 hgrow (Nat.le_refl _))
            · refine leaves_cons (f := 50) (args := #[.pointer (some ⟨b, 0, none⟩), .int .i64 at_]) (by simp) (by simp [go_sem]) ?_
              refine (keep_deferred b at_ rt .returning _ HB3.out).mono ?_
              rintro e u' w4 ⟨rfl, rfl, h4, m4⟩
              have hr : (Rd.texts ⟨s, at_, f⟩ most) = ([], rt.keep at_) := by
                rw [HT.out, HG.out, HX.out, if_pos (by simpa using ‹(rt.f != 0) = true›)]; rfl
              rw [hr]
              exact ⟨.slice none 0 0, res1 rfl rfl, _, rfl, .inl ⟨rfl, _, _, rfl⟩, h4, m3.trans m4⟩
            · go_roundw
              case rel =>
                have hz : ¬ rt.f ≠ 0 := by simpa using ‹(rt.f != 0) = false›
                refine ⟨k + 1, l ++ [t], rt, by omega, by go_num, by simpa using hown', HB3, HRt, ?_, by show _ = _; rw [List.length_append, HLk.out]; rfl, m3⟩
                show _ = _
                rw [HG.out, HX.out, if_neg hz]
              case measure => simp [intOf]; omega
          · have hr : Hid ((Rd.texts ⟨s, at_, f⟩ most) = (l, rk.keep at_)) := by
              show _ = _
              rw [HT.out, HG.out, show n - k = 0 from by omega]; rfl
            have hsl := SlAt.of_owns hown
            rcases hown.2 with ⟨rfl, hn⟩ | ⟨g, cap, cur, rfl, hg, hcur, hle, hm, hsz, htk⟩
            · have HN := Lib.hid hn; clear hn
              go_wp2
              refine leaves_cons (f := 50) (args := #[.pointer (some ⟨b, 0, none⟩), .int .i64 at_]) (by simp) (by simp [go_sem]) ?_
              refine (keep_deferred b at_ rk .returning _ HB.out).mono ?_
              rintro e u' w4 ⟨rfl, rfl, h4, m4⟩
              rw [hr.out]
              refine ⟨.slice none 0 0, res1 rfl rfl, _, rfl, ?_, h4, mr.trans m4⟩
              exact hsl.mod m4 (fun g hg _ e => by omega)
            · have hgl := lt_of hcur
              clear hcur hm hsz htk
              go_wp2
              refine leaves_cons (f := 50) (args := #[.pointer (some ⟨b, 0, none⟩), .int .i64 at_]) (by simp) (by simp [go_sem]) ?_
              refine (keep_deferred b at_ rk .returning _ HB.out).mono ?_
              rintro e u' w4 ⟨rfl, rfl, h4, m4⟩
              rw [hr.out]
              refine ⟨.slice (some ⟨g, 0, none⟩) l.length l.length, res1 rfl rfl, _, rfl, ?_, h4, mr.trans m4⟩
              exact (hsl.mod m4 (fun g hg _ e => by omega)).recap (by rw [List.length_map]; exact Nat.le_refl _)
  · have g1' : (q1 == 0) = false := by simp [g1]
    have HC : Hid (Rd.cap ⟨s1, a1, q1⟩ n most = ⟨s1, a1, q1⟩) := if_neg (fun x => g1 x.1)
    have HR := key.out _ HC
    have H2 := H1
    have m2 := m1
    clear key
    go_wp2
    all_goals
      rw [HC.out] at HT
      clear HC d0 d2 e1 e2 c0 c1 c2 c3 f1 f2 H h0
      go_loopw [4, 38] (fun v i wr => ∃ (k : Nat) (l : List ByteArray) (rk : Rd), k ≤ n ∧ i = .int .i64 k ∧ wr.ownsRow w.heap.size 9 1 v l.length (l.map Value.string) ∧ Hid (wr.heap[b]? = some (rdO rk)) ∧ Hid (rk.s = s ∧ rk.at_ ≤ s.size) ∧ Hid (Rd.textsGo n _ [] = Rd.textsGo (n - k) rk l) ∧ Hid (l.length = k) ∧ Mod (· = b) w wr) (fun _ i _ => n - (intOf i).toNat)
      case atStart => exact ⟨0, [], _, Nat.zero_le _, rfl, World.ownsRow_nil _ _ _ _, H2, HR, rfl, rfl, m2⟩
      case round =>
        obtain ⟨k, l, rk, hk, rfl, hown, HB, HRk, HG, HLn, mr⟩ := hrel
        by_cases hlt : k < n
        · have hlt' := hlt
          have hb : b < wr.heap.size := lt_of HB.out
          have HX : Hid (Rd.textsGo (n - k) rk l = if rk.text.2.f ≠ 0 then (none, rk.text.2) else Rd.textsGo (n - (k + 1)) rk.text.2 (l ++ [rk.text.1])) := by
            show _ = _
            rw [show n - k = (n - (k + 1)) + 1 from by omega]; rfl
          have HRt : Hid (rk.text.2.s = s ∧ rk.text.2.at_ ≤ s.size) := ⟨(Rd.text_s rk).trans HRk.out.1, by have := Rd.text_at rk (by rw [HRk.out.1]; exact HRk.out.2); rwa [Rd.text_s, HRk.out.1] at this⟩
          go_wp2_with fail
          refine (text_any b rk _ HB.out (by rw [HRk.out.1]; exact hs) (by rw [HRk.out.1]; exact HRk.out.2)).mono ?_
          rintro e w2 ⟨rfl, hT2, mT⟩
          have HB2 := Lib.hid hT2; clear hT2
          generalize rk.text.2 = rt at *
          generalize rk.text.1 = t at *
          have hown2 := owns_mod hown mT (fun k hk e => by omega)
          have hlen : l.length = k := HLn.out
          have hsz2 : w.heap.size ≤ w2.heap.size := (mr.trans mT).size
          have HLk := Lib.hid hlen; clear hlen
          have hlb : l.length ≤ 65536 := by rw [HLk.out]; omega
          have C2 : Hid (∀ u ∈ ([Value.string t] : List Value), u.oneCell' = true) := by intro u hu; rcases List.mem_singleton.1 hu with rfl; rfl
          have C3 : Hid (l.length + 1 ≤ maxLen) := by show _ ≤ _; unfold maxLen; omega
          have C4 : Hid ((l.length + 1) * 16 ≤ 140737488355328) := by show _ ≤ _; omega
          have C5 : Hid (w.heap.size ≤ (w2.alloc (.cells #[.string t] 9)).heap.size) := by show _ ≤ _; rw [World.size_alloc]; omega
          go_wp2_with (at_builtin; go_must (refine wpList_append_own _ rfl _ _ 29 rfl w.heap.size 9 i0 (.string ByteArray.empty) 1 16 Try.underlying29 hi hz0 hz1 hz2 rfl (by decide) _ _ _ rfl (hown2.alloc _) ⟨w2.heap.size, 0, none⟩ 1 1 [.string t] rfl rfl (new_one _ _ _) C2.out C3.out C4.out C5.out ?_); intro v' w3 hown' hgrow _; have HB3 : Hid (w3.heap[b]? = some (rdO rt)) := (grow_keep hown2 hgrow ht (Nat.lt_of_lt_of_le hb mT.size)).trans HB2.out; have d3 : w3.cell? ⟨b, 2, none⟩ = some (.int .i64 rt.f) := (cell_of HB3.out 2).trans rfl; have m3 := grow_mod (mr.trans mT) hown2 hgrow (Nat.le_refl _))
          · refine leaves_cons (f := 50) (args := #[.pointer (some ⟨b, 0, none⟩), .int .i64 at_]) (by simp) (by simp [go_sem]) ?_
            refine (keep_deferred b at_ rt .returning _ HB3.out).mono ?_
            rintro e u' w4 ⟨rfl, rfl, h4, m4⟩
            have hr : (Rd.texts ⟨s, at_, f⟩ most) = ([], rt.keep at_) := by
              rw [HT.out, HG.out, HX.out, if_pos (by simpa using ‹(rt.f != 0) = true›)]; rfl
            rw [hr]
            exact ⟨.slice none 0 0, res1 rfl rfl, _, rfl, .inl ⟨rfl, _, _, rfl⟩, h4, m3.trans m4⟩
          · go_roundw
            case rel =>
              have hz : ¬ rt.f ≠ 0 := by simpa using ‹(rt.f != 0) = false›
              refine ⟨k + 1, l ++ [t], rt, by omega, by go_num, by simpa using hown', HB3, HRt, ?_, by show _ = _; rw [List.length_append, HLk.out]; rfl, m3⟩
              show _ = _
              rw [HG.out, HX.out, if_neg hz]
            case measure => simp [intOf]; omega
        · have hr : Hid ((Rd.texts ⟨s, at_, f⟩ most) = (l, rk.keep at_)) := by
            show _ = _
            rw [HT.out, HG.out, show n - k = 0 from by omega]; rfl
          have hsl := SlAt.of_owns hown
          rcases hown.2 with ⟨rfl, hn⟩ | ⟨g, cap, cur, rfl, hg, hcur, hle, hm, hsz, htk⟩
          · have HN := Lib.hid hn; clear hn
            go_wp2
            refine leaves_cons (f := 50) (args := #[.pointer (some ⟨b, 0, none⟩), .int .i64 at_]) (by simp) (by simp [go_sem]) ?_
            refine (keep_deferred b at_ rk .returning _ HB.out).mono ?_
            rintro e u' w4 ⟨rfl, rfl, h4, m4⟩
            rw [hr.out]
            refine ⟨.slice none 0 0, res1 rfl rfl, _, rfl, ?_, h4, mr.trans m4⟩
            exact hsl.mod m4 (fun g hg _ e => by omega)
          · have hgl := lt_of hcur
            clear hcur hm hsz htk
            go_wp2
            refine leaves_cons (f := 50) (args := #[.pointer (some ⟨b, 0, none⟩), .int .i64 at_]) (by simp) (by simp [go_sem]) ?_
            refine (keep_deferred b at_ rk .returning _ HB.out).mono ?_
            rintro e u' w4 ⟨rfl, rfl, h4, m4⟩
            rw [hr.out]
            refine ⟨.slice (some ⟨g, 0, none⟩) l.length l.length, res1 rfl rfl, _, rfl, ?_, h4, mr.trans m4⟩
            exact (hsl.mod m4 (fun g hg _ e => by omega)).recap (by rw [List.length_map]; exact Nat.le_refl _)
end Go.Proofs.Ythibakgnddmlfaa
