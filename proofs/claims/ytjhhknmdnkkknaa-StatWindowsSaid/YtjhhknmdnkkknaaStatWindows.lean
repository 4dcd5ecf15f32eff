/- The statement StatWindows. -/
import Derived.Test.YtjhhknmdnkkknaaLawStat
import Derived.Test.YtjhhknmdnkkknaaWorks
import Derived.Test.YtjhhknmdnkkknaaStatRWin
import Derived.Test.YtjhhknmdnkkknaaStsOwn
namespace Go.Proofs.Ytjhhknmdnkkknaa.statWindows
open Go.ChangeShapes Go.WideShapes Go.ChangeAt Go.RowKit
open Go.Proofs.Ytjhhknmdnkkknaa

set_option maxRecDepth 100000 in
set_option maxHeartbeats 4000000 in
theorem walk (a : Option Addr) (cap : Nat) (L : List St) (off count : Nat) (w : World) (h : StsAt w (fun _ => True) (.slice a L.length cap) L) (hoff : off < 18446744073709551616) (hcount : count < 4294967296)
    (hlen : L.length ≤ 140737488355328) (hOk : ∀ s ∈ L, s.Ok) (hsz : ∀ s ∈ L, s.n.size ≤ 140737488355328 ∧ s.u.size ≤ 140737488355328 ∧ s.g.size ≤ 140737488355328 ∧ s.m.size ≤ 140737488355328) :
    Calls Try.prog 4 #[.slice a L.length cap, .int .u64 off, .int .u32 count] w fun e w' => e = .returned (.bool true) ∧ Mod (fun _ => False) w w' := by
  have hlong := long_any _ L w h hlen hsz
  have hls : Hid (longS L = decide (60 < L.length ∨ 262144 < sumS L)) := rfl
  generalize hlb : longS L = lb at *
  go_enter Try.func4, Try.ntmps4
  go_wp2_with fail
  refine hlong.mono ?_
  rintro e w3 ⟨rfl, m3⟩
  have h3 := h.mod m3 (fun _ _ _ x => x)
  have HM3 := Lib.hid m3
  clear m3 hlong h
  cases lb
  · have hsm := of_decide_eq_false hls.out.symm
    have h60 : L.length ≤ 60 := by omega
    have hL : ∀ s ∈ L, s.Ok ∧ s.n.size ≤ 262144 ∧ s.u.size ≤ 262144 ∧ s.g.size ≤ 262144 ∧ s.m.size ≤ 262144 := fun s hs => by
      have := sumS_mem hs
      exact ⟨hOk s hs, by omega, by omega, by omega, by omega⟩
    clear hls hlb hsm hsz
    have C1 : Hid ((0 + L.length) * 112 ≤ 140737488355328) := by show _ ≤ _; omega
    have C2 : Hid (0 + L.length ≤ 9223372036854775807) := by show _ ≤ _; omega
    have C3 : Hid (w3.heap.size ≤ w3.heap.size) := Nat.le_refl _
    go_wp2_with (refine wpl_append rfl (.const (.slice none 0 0)) (.tmp 15) _ _ rfl w3.heap.size 28 (.agg #[.int .u16 0, .int .u32 0, .int .u8 0, .int .u32 0, .int .u64 0, .int .u32 0, .int .u32 0, .int .u32 0, .int .u64 0, .string { data := #[] }, .string { data := #[] }, .string { data := #[] }, .string { data := #[] }]) 13 112 Try.underlying30 info_stat rfl (by decide) _ 0 [] rfl (OwnA.nil _ _ _) _ L.length _ rfl (src_sts h3 rfl) C1.out C2.out C3.out ?_; intro v' w5 hown' hgrow)
    rw [List.nil_append, Nat.zero_add] at hown'
    have hm5 : Mod (fun _ => False) w3 w5 := ⟨hgrow.os, hgrow.tape, hgrow.output, hgrow.size, fun k hk _ => hgrow.block k hk (fun e => by cases e)⟩
    have h5 := h3.mod hm5 (fun _ _ _ x => x)
    have hin := (hown'.sts).imp (Q := fun _ => True) (fun _ _ => trivial)
    have HM5 := Lib.hid (HM3.out.trans hm5)
    have hW1 := fun U hU => win_any v' L off count U hU h60 hL hoff hcount
    have hW2 := fun U hU => rwin_any (.slice a L.length cap) L off count U hU h60 hL hcount
    generalize (winS L off count).1 = r1 at *
    generalize (winS L off count).2 = r2 at *
    clear hown' hgrow hm5 h3 hOk hL
    go_wp2_with fail
    refine (hW1 _ hin).mono ?_
    rintro e w6 ⟨rfl, m6⟩
    have h6 := h5.mod m6 (fun _ _ _ x => x)
    have hin6 := hin.mod m6 (fun _ _ _ x => x)
    have HM6 := Lib.hid (HM5.out.trans m6)
    clear m6 h5 hin HM5 hW1
    go_wp2_with fail
    refine (hW2 _ h6).mono ?_
    rintro e w7 ⟨rfl, m7⟩
    have h7 := h6.mod m7 (fun _ _ _ x => x)
    have hin7 := hin6.mod m7 (fun _ _ _ x => x)
    have HM7 := Lib.hid (HM6.out.trans m7)
    clear m7 h6 hin6 HM6 hW2
    have hS := same_any _ _ L w7 hin7 h7 hlen
    go_wp2_with fail
    refine hS.mono ?_
    rintro e w8 ⟨rfl, m8⟩
    have HM8 := Lib.hid (HM7.out.trans m8)
    go_wp2_with fail
    refine (works_any _).mono ?_
    rintro e w9 ⟨rfl, m9⟩
    go_wp2
    go_ret
    exact ⟨rfl, HM8.out.trans m9⟩
  · go_wp2_with fail
    refine (works_any _).mono ?_
    rintro e w4 ⟨rfl, m4⟩
    go_wp2
    go_ret
    exact ⟨rfl, HM3.out.trans m4⟩

set_option maxRecDepth 100000 in
theorem contract (H : Type) (enc : TypeId × Value → H) (W : World) (base : Nat) (args : Array Value) (ds gs : List (DataW H)) (before : List MemPlace)
    (hval : ∀ (j : Nat) t v, Try.f4.params[j]? = some t → args[j]? = some v → Value.okWide Try.prog W .any base t v)
    (hW : DataW.Whole enc Try.prog Try.f4.params.toList Rows.statWindowsSpec.vars false W args.toList ds gs before)
    (hsz : (DataW.weightsEach Try.prog (Try.f4.params.toList ++ Rows.statWindowsSpec.plain.varTypes Try.prog) (ds ++ gs)).all (· ≤ reachBytes) = true) :
    Calls Try.prog 4 args W fun e W' => ∃ v, e = .returned v ∧ Rows.statWindowsSpec.post enc Try.prog Try.f4 false true false false W args v W' := by
  have hW' := hW
  obtain ⟨p, q, hA0, hV, rfl, hfz, hnd⟩ := hW
  have hA : DataW.TrodAll enc Try.prog W 0 (fun _ => true) true Try.f4.params.toList args.toList ds p := hA0
  rw [Try.params4] at hA hval hsz
  obtain ⟨v0, vs0, d0, ds0, p0, q0, hargs, rfl, rfl, h0, r0⟩ := trodAll_cons hA
  obtain ⟨v1, vs1, d1, ds1, p1, q1, rfl, rfl, rfl, h1, r1⟩ := trodAll_cons r0
  obtain ⟨v2, vs2, d2, ds2, p2, q2, rfl, rfl, rfl, h2, r2⟩ := trodAll_cons r1
  obtain ⟨rfl, rfl, rfl⟩ := trodAll_nil r2
  obtain rfl : args = #[v0, v1, v2] := by cases args; simp_all
  obtain ⟨L, hS, hk, hw⟩ := arg_stats (hval 0 30 v0 rfl rfl) h0
  obtain ⟨x, rfl, rfl, rfl, hx⟩ := open_int Try.underlying24 (hval 1 24 v1 rfl rfl) h1
  obtain ⟨y, rfl, rfl, rfl, hy⟩ := open_int Try.underlying23 (hval 2 23 v2 rfl rfl) h2
  obtain ⟨off, rfl, ho⟩ := u64_of hx
  obtain ⟨count, rfl, hc⟩ := wf_lt (m := 4294967295) hy rfl rfl
  obtain ⟨a, cap, rfl, _, _⟩ := hS.form
  clear hA0
  obtain ⟨b0, hb⟩ := hw fun k hkm => by
    have := List.all_eq_true.1 hsz k (DataW.weights_mem_each (j := 0) (t := 30) rfl rfl k hkm)
    simpa using this
  unfold reachBytes at b0 hb
  refine (walk a cap L off count W hS ho (by omega) (by omega) hk (fun s hs => by have := hb s hs; omega)).mono fun e W' ⟨he, hg⟩ => ?_
  subst he
  exact ⟨_, rfl, law_post hW' hg (by kernel_rfl) rfl rfl rfl rfl rfl⟩

set_option maxRecDepth 100000 in
theorem lifted (os : Os) (started : os.Started) (H : Type) (enc : TypeId × Value → H) :
    ReturnsInHanded {} Try.checked os 4 .any (Rows.statWindowsSpec.pre6 enc Try.prog Try.f4 Rows.statWindowsRow.domain false) (Rows.statWindowsSpec.post enc Try.prog Try.f4 false true false false) := by
  refine returnsInHanded_of_change_sized (C := Try.checked) own_knob started (by kernel_rfl) Try.func4
    (ChangeSpec.witness6 (enc := enc) (C := Try.checked) false ⟨#[], #[.slice none 0 0, .int .u64 0, .int .u32 0], []⟩ 8 (by kernel_rfl) (by kernel_rfl) (by kernel_rfl) (by kernel_rfl)) ?_
  intro W base args ds gs before hval hW _ hsz _
  exact contract H enc W base args ds gs before hval hW hsz

theorem proved : Rows.StatWindowsSaid :=
  OpenClaim.holds_of_wide 4 Try.f4 rfl rfl rfl rfl rfl rfl rfl ⟨rfl, rfl, rfl, rfl, rfl⟩ rfl rfl rfl rfl rfl (by kernel_rfl) Try.func4 (by kernel_rfl)
    (of_decide_eq_true (by kernel_rfl)) (by unfold Func.isWrapper; first | (rw [if_pos (by decide +kernel)]; kernel_rfl) | (rw [if_neg (by decide +kernel)]; exact ⟨rfl, rfl⟩))
    (fun os started H enc _ => lifted os started H enc)
end Go.Proofs.Ytjhhknmdnkkknaa.statWindows
