/- Package fids's Tags: NewTags, Begin, Flush, Open. -/
import Derived.Test.YtcadkaedahoefaaTags
import Derived.Test.YtcadkaedahoefaaRegionHold
namespace Go.Proofs.Ytcadkaedahoefaa
open Go.RowKit

theorem OwnA.form {w : World} {base size n : Nat} {v : Value} {xs : List Value} (h : OwnA w base size v n xs) : ∃ a cap, v = .slice a n cap ∧ n ≤ cap := by
  rcases h.2 with ⟨rfl, rfl⟩ | ⟨g, cap, rfl, _, _, hc, _⟩
  · exact ⟨_, _, rfl, Nat.le_refl _⟩
  · exact ⟨_, _, rfl, hc⟩
theorem info_u16 : (Try.prog.info? 29).map (fun i => (i.zero, i.size, i.bytes)) = some (some (.int .u16 0), 1, 2) := by kernel_rfl
theorem src_u16 (w : World) (x : Nat) : Src Try.prog 1 34 (.slice (some ⟨w.heap.size, 0, none⟩) 1 1) 1 (u16s [x]) (w.alloc (.cells #[.int .u16 x] 29)) :=
  Src.ofSlice _ Try.underlying34 _ _ _ _ rfl (fun j u hj => by
    cases j with
    | zero => cases hj; exact (cell_of (new_at w _) 0).trans rfl
    | succ j => cases hj) (u16s_one _)
def beginS (s : TS) (tag : Nat) : TS × Int :=
  if tag = 65535 then (s, 2) else if inL s.l tag = true then (s, 184) else if s.most ≤ s.l.length then (s, 6) else (⟨s.l ++ [tag], s.w, s.most⟩, 0)
def badMost (m : Int) : Bool := decide (m < 1) || decide (32 < m)
theorem newtags_any (m : Int) (w : World) :
    Calls Try.prog 8 #[.int .i64 m] w fun e w' => (badMost m = true → e = .returned (.tuple #[.pointer none, .int .i64 2]) ∧ w' = w) ∧
      (badMost m = false → e = .returned (.tuple #[.pointer (some ⟨w.heap.size, 0, none⟩), .int .i64 0]) ∧ w' = w.alloc (.cells #[.slice none 0 0, .slice none 0 0, .int .i64 m] 74)) := by
  by_cases h1 : m < 1
  · have t1 : decide (m < 1) = true := by simp [h1]
    have HB : Hid (badMost m = true) := by show _ = _; unfold badMost; rw [t1]; rfl
    go_enter Try.func8, Try.ntmps8
    go_wp2
    go_ret2
    exact ⟨fun _ => ⟨rfl, rfl⟩, fun h => by rw [HB.out] at h; cases h⟩
  have t1 : decide (m < 1) = false := by simp; omega
  by_cases h2 : 32 < m
  · have t2 : decide (32 < m) = true := by simp [h2]
    have HB : Hid (badMost m = true) := by show _ = _; unfold badMost; rw [t1, t2]; rfl
    go_enter Try.func8, Try.ntmps8
    go_wp2
    go_ret2
    exact ⟨fun _ => ⟨rfl, rfl⟩, fun h => by rw [HB.out] at h; cases h⟩
  have t2 : decide (32 < m) = false := by simp; omega
  have HB : Hid (badMost m = false) := by show _ = _; unfold badMost; rw [t1, t2]; rfl
  go_enter Try.func8, Try.ntmps8
  go_wp2
  go_ret2
  exact ⟨fun h => (by rw [HB.out] at h; cases h), fun _ => ⟨rfl, rfl⟩⟩
set_option maxHeartbeats 1000000 in
set_option maxRecDepth 100000 in
theorem begin_any (w : World) (F : Nat → Prop) (b tag : Nat) (s : TS) (h : TagsAt 74 w F b s) (hl : s.l.length ≤ 1000000) :
    Calls Try.prog 9 #[.pointer (some ⟨b, 0, none⟩), .int .u16 tag] w fun e w' => e = .returned (.int .i64 (beginS s tag).2) ∧ ∃ F', TagsAt 74 w' F' b (beginS s tag).1 ∧ Mod F w w' ∧ Grows w F F' := by
  obtain ⟨vl, vw, h⟩ := h
  have H := Lib.hid h
  obtain ⟨va, vc, rfl, hvc⟩ := h.ol.form
  have hCt := fun U hU => contains_any (.slice va s.l.length vc) s.l tag (fun _ => True) U hU (by omega)
  have HS := Lib.hid (h.ol.slAt.imp fun _ _ => trivial : SlAt w (fun _ => True) _ _)
  have hobj := h.obj
  have c0 : (w).cell? ⟨b, 0, none⟩ = some (.slice va s.l.length vc) := (cell_of hobj 0).trans rfl
  have c1 : (w).cell? ⟨b, 1, none⟩ = some (vw) := (cell_of hobj 1).trans rfl
  have c2 : (w).cell? ⟨b, 2, none⟩ = some (.int .i64 s.most) := (cell_of hobj 2).trans rfl
  have f0 : (w).frozen? ⟨b, 0, none⟩ = false := free_of hobj 0
  have f1 : (w).frozen? ⟨b, 1, none⟩ = false := free_of hobj 1
  clear h hobj
  by_cases h1 : tag = 65535
  · have HV : Hid (beginS s tag = (s, 2)) := if_pos h1
    subst h1
    go_enter Try.func9, Try.ntmps9
    go_wp2
    go_ret
    exact ⟨by rw [HV.out]; rfl, F, by rw [HV.out]; exact ⟨_, _, H.out⟩, Mod.refl _ _, Grows.refl _ _⟩
  have t1 : ((tag : Int) == 65535) = false := by simp; omega
  cases h2 : inL s.l tag with
  | true =>
    have HV : Hid (beginS s tag = (s, 184)) := by show _ = _; unfold beginS; rw [if_neg h1, if_pos h2]
    rw [h2] at hCt
    clear h2
    go_enter Try.func9, Try.ntmps9
    go_wp2_with fail
    refine (hCt _ HS.out).mono ?_
    rintro e w1 ⟨rfl, rfl⟩
    go_wp2
    go_ret
    exact ⟨by rw [HV.out]; rfl, F, by rw [HV.out]; exact ⟨_, _, H.out⟩, Mod.refl _ _, Grows.refl _ _⟩
  | false =>
  rw [h2] at hCt
  by_cases h3 : s.most ≤ s.l.length
  · have HV : Hid (beginS s tag = (s, 6)) := by show _ = _; unfold beginS; rw [if_neg h1, if_neg (by rw [h2]; simp), if_pos h3]
    have t3 : decide (s.most ≤ (s.l.length : Int)) = true := by simp [h3]
    clear h2
    go_enter Try.func9, Try.ntmps9
    go_wp2_with fail
    refine (hCt _ HS.out).mono ?_
    rintro e w1 ⟨rfl, rfl⟩
    go_wp2
    go_quiet (fail)
    go_wp2
    go_ret
    exact ⟨by rw [HV.out]; rfl, F, by rw [HV.out]; exact ⟨_, _, H.out.mod ((Mod.refl (fun _ => False) _).drewN _) (fun _ x => x.elim)⟩, (Mod.refl _ _).drewN _, Grows.refl _ _⟩
  · have HV : Hid (beginS s tag = (⟨s.l ++ [tag], s.w, s.most⟩, 0)) := by show _ = _; unfold beginS; rw [if_neg h1, if_neg (by rw [h2]; simp), if_neg h3]
    have t3 : decide (s.most ≤ (s.l.length : Int)) = false := by simp; omega
    clear h2
    go_enter Try.func9, Try.ntmps9
    go_wp2_with fail
    refine (hCt _ HS.out).mono ?_
    rintro e w1 ⟨rfl, rfl⟩
    go_wp2
    go_quiet (fail)
    have MA := Lib.hid ((((Mod.refl (fun _ => False) w1).drewN nq)).alloc (.cells #[.int .u16 tag] 29))
    have HO : Hid (OwnA ((w1.drewN nq).alloc (.cells #[.int .u16 tag] 29)) 0 1 (.slice va s.l.length vc) s.l.length (u16s s.l)) := H.out.ol.mod MA.out (fun _ _ x => x)
    have A2 := Lib.hid (src_u16 (w1.drewN nq) tag)
    have C1 : Hid ((s.l.length + 1) * 2 ≤ 140737488355328) := by show _ ≤ _; omega
    have C2 : Hid (s.l.length + 1 ≤ 9223372036854775807) := by show _ ≤ _; omega
    go_wp2_with (refine wpl_appendB rfl (.tmp 33) (.tmp 35) _ _ rfl 0 29 (.int .u16 0) 1 2 Try.underlying34 info_u16 rfl (by decide) _ _ _ rfl HO.out _ 1 _ rfl A2.out C1.out C2.out (Nat.zero_le _) ?_; intro v' w3 hown' hgrow hblk; have hmd := (MA.out.mono (T := fun k => some k = (Value.slice va s.l.length vc).ownBlock) (fun _ _ x => x.elim)).trans hgrow; have hb3 := (hmd.block b (lt_of H.out.obj) (fun x => (H.out.fl b x).2 rfl)).trans H.out.obj; obtain ⟨va2, vc2, rfl, _⟩ := hown'.form; have f0 : w3.frozen? ⟨b, 0, none⟩ = false := free_of hb3 0; have c0 : w3.cell? ⟨b, 0, none⟩ = some (.slice va s.l.length vc) := (cell_of hb3 0).trans rfl; rw [show u16s s.l ++ u16s [tag] = u16s (s.l ++ [tag]) from (u16s_append _ _).symm] at hown'; obtain ⟨F', e1, e2, e3⟩ := H.out.setL (l' := s.l ++ [tag]) hmd (by rw [List.length_append]; exact hown') (fun k hk => by
      rcases hblk with h | h
      · rw [h] at hk; exact Or.inl hk
      · rw [h] at hk; injection hk with hk; subst hk; exact Or.inr (by simp)); have e1 := Lib.hid e1; have e2 := Lib.hid e2; have e3 := Lib.hid e3; clear hown' hgrow hblk hmd hb3)
    go_ret
    exact ⟨by rw [HV.out]; rfl, _, by rw [HV.out]; exact ⟨_, _, e1.out⟩, e2.out, e3.out⟩
end Go.Proofs.Ytcadkaedahoefaa
