/- stands: do both look the same? -/
import Derived.Test.YtaoldidkbfhlpaaBitsRRead
import Derived.Lib.QuietBelow
namespace Go.Proofs.Ytaoldidkbfhlpaa
open Go.RowKit Go.Sort

theorem stands_any (b g r g2 n cap : Nat) (T : Nat → Bool) (w : World) (h : BitsAt w b g n T) (h2 : RefAt w r g2 n cap T) :
    Calls Try.prog 16 #[.pointer (some ⟨b, 0, none⟩), .pointer (some ⟨r, 0, none⟩)] w fun e w' => e = .returned (.bool true) ∧ Mod (fun _ => False) w w' := by
  have c0 : w.cell? ⟨r, 0, none⟩ = some (.slice (some ⟨g2, 0, none⟩) n cap) := (cell_of h2.hb 0).trans rfl
  have k0 := cell_regrown c0
  have kb : ∀ d os, BitsAt (grow (redrawn w d) os) b g n T := fun d os => h.mod (S := fun _ => False) (Mod.of_below (below_regrown w d os)) (fun x => x) (fun x => x)
  have kr : ∀ d os, RefAt (grow (redrawn w d) os) r g2 n cap T := fun d os => h2.mod (S := fun _ => False) (Mod.of_below (below_regrown w d os)) (fun x => x) (fun x => x)
  have cLen := fun d os => Calls.regrown_of (w := w) (d := d) (os := os) ((len_any b g n T _ (kb d os)).mono fun e w' ⟨q1, q2⟩ => ⟨q1, q2 ▸ Below.refl _ _⟩)
  have cFree := fun d os => Calls.regrown_of (w := w) (d := d) (os := os) ((free_any b g n T _ (kb d os)).mono fun e w' ⟨q1, q2⟩ => ⟨q1, q2 ▸ Below.refl _ _⟩)
  have cRFree := fun d os => Calls.regrown_of (w := w) (d := d) (os := os) ((rfree_any r g2 n cap T _ (kr d os)).mono fun e w' ⟨q1, q2⟩ => ⟨q1, q2 ▸ Below.refl _ _⟩)
  have cBytes := fun d os => Calls.regrown_of (w := w) (d := d) (os := os) ((Bytes_any b g n T _ (kb d os)).mono fun e w' ⟨q1, q2⟩ => ⟨q1, q2.below⟩)
  have cRBytes := fun d os => Calls.regrown_of (w := w) (d := d) (os := os) ((rbytes_any r g2 n cap T _ (kr d os) h.out).mono fun e w' ⟨q1, q2⟩ => ⟨q1, q2.below⟩)
  have cLarg := fun d os => Calls.regrown_of (w := w) (d := d) (os := os) ((Largest_any b g n T _ (kb d os)).mono fun e w' ⟨q1, q2⟩ => ⟨q1, q2.below⟩)
  have cRLarg := fun d os => Calls.regrown_of (w := w) (d := d) (os := os) ((rlargest_any r g2 n cap T _ (kr d os)).mono fun e w' ⟨q1, q2⟩ => ⟨q1, q2 ▸ Below.refl _ _⟩)
  have hn2 := h.n2
  have hc := cnt_le T n
  generalize bs (bytesT T ((n + 7) / 8)) = q at *
  generalize largK n T 5 = lk at *
  generalize n - cnt T n = fr at *
  have z1 : (q.toList == q.toList) = true := beq_self_eq_true _
  clear h h2 c0 kb kr
  go_enter Try.func16, Try.ntmps16
  go_wp2
  refine wp_region_quiet_below (by kernel_rfl) (by kernel_rfl) ?_
  repeat (quiet_step (first | (go_at_call 19; exact cLen _ _) | (go_at_call 12; exact cFree _ _) | (go_at_call 27; exact cRFree _ _) | (go_at_call 17; exact cBytes _ _) | (go_at_call 26; exact cRBytes _ _) | (go_at_call 9; exact cLarg _ _) | (go_at_call 28; exact cRLarg _ _)))
  refine wpQuiet_nil ?_
  intro _ hw'
  obtain ⟨⟨dq, osq⟩, hw''⟩ := hw'
  subst hw''
  go_wp2
  go_ret
  exact ⟨rfl, Mod.of_below (below_regrown w dq osq)⟩
end Go.Proofs.Ytaoldidkbfhlpaa
