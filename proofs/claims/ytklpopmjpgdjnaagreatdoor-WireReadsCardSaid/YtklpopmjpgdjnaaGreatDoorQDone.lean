/- Package wire's done: a pen through all fields of a type. -/
import Derived.Test.YtklpopmjpgdjnaaGreatDoorQPenCF
import Derived.Test.YtklpopmjpgdjnaaGreatDoorQStatNext
set_option linter.unusedVariables false
set_option linter.unusedSimpArgs false
namespace Go.Proofs.YtklpopmjpgdjnaaGreatDoor
open Go.RowKit

/-- a row of field functions -/
def fnV (l : List Fld) : List Value := l.map fun f => .func (.func (fnOf f)) #[] #[]
theorem fnV_get {l : List Fld} {j : Nat} (h : j < l.length) : (fnV l)[j]? = some (.func (.func (fnOf l[j])) #[] #[]) := by
  unfold fnV
  rw [List.getElem?_map, List.getElem?_eq_getElem h]; rfl
theorem fnV_length (l : List Fld) : (fnV l).length = l.length := List.length_map _
theorem take_foldl {α β : Type} (g : β → α → β) (b : β) (l : List α) {j : Nat} (h : j < l.length) : (l.take (j + 1)).foldl g b = g ((l.take j).foldl g b) l[j] := by
  rw [List.take_succ_eq_append_getElem h, List.foldl_append]; rfl
theorem PenAt.made (w : World) (d : Int) (br : Nat) : PenAt (w.alloc (penO d (.pointer none) (.slice none 0 0) br false false)) (· = w.heap.size) w.heap.size d [] br false false :=
  ⟨.pointer none, .slice none 0 0, new_at _ _, World.ownsRow_nil _ _ _ _, by simp [Value.ownBlock], Or.inl rfl, rfl, fun k hk => by simp [Value.ownBlock] at hk, fun k hk => by rw [hk]; simp⟩
set_option maxHeartbeats 2000000 in
theorem done_c (s : ByteArray) (bm : Nat) (P : Nat → Prop) (m : Msg) (v : Value) (l : List Fld) (w : World) (hv : SlAt w (fun g => g ≠ bm) v (fnV l)) (hl : l.length ≤ 1000000) (hm : MsgAt w P bm m) (hml : bm < w.heap.size) (hP : ∀ g, P g → g ≠ bm) :
    Calls Tryz.prog 28 #[.int .i64 2, .string s, .pointer (some ⟨bm, 0, none⟩), v] w fun e w' => ∃ b, e = .returned (.pointer (some ⟨b, 0, none⟩)) ∧ MsgAt w' P bm (l.foldl Fld.clear m) ∧ Mod (· = bm) w w' := by
  have hN := new_any s w
  obtain ⟨a, cap, rfl, hcap, hvx⟩ := hv.form
  rw [fnV_length] at hcap ⊢
  go_enter Tryz.func28, Tryz.ntmps28
  go_wp2_with fail
  refine hN.mono ?_
  rintro e w1 ⟨rfl, hr1, m1⟩
  obtain ⟨br, hbr⟩ : ∃ br, w.heap.size = br := ⟨_, rfl⟩
  obtain ⟨bp, hbp⟩ : ∃ bp, w1.heap.size = bp := ⟨_, rfl⟩
  obtain ⟨W, hW⟩ : ∃ W, w1.alloc (.cells #[.int .i64 2, .pointer none, .slice none 0 0, .pointer (some ⟨br, 0, none⟩), .bool false, .bool false] 72) = W := ⟨_, rfl⟩
  have hp : PenAt W (· = bp) bp 2 [] br false false := by rw [← hW, ← hbp]; exact PenAt.made w1 2 br
  have m2 : Mod (fun _ => False) w W := by rw [← hW]; exact m1.alloc _
  have hM := hm.mod m2 (fun x => x) (fun _ _ x => x)
  have hne : bm ≠ bp := by rw [← hbp]; have := m1.size; omega
  have HI : Hid (∃ p v, PenP W (· = bp) bp 2 [] br false false p v) := hp
  have HM := Lib.hid hM
  have M2 := Lib.hid m2
  clear hp hM m2 m1 hr1 hN hv hm
  go_wp2
  go_loopw [11, 19] (fun _ i wr => ∃ (j : Nat), j ≤ l.length ∧ i = .int .i64 j ∧ Hid (PenAt wr (· = bp) bp 2 [] br false false) ∧ Hid (MsgAt wr P bm ((l.take j).foldl Fld.clear m)) ∧ Hid (Mod (· = bm) w wr)) (fun _ i _ => l.length - (intOf i).toNat)
  case atStart => exact ⟨0, Nat.zero_le _, rfl, HI.out, HM.out, M2.out.mono fun _ _ x => x.elim⟩
  case round =>
    clear HI HM M2 hW
    obtain ⟨j, hj, rfl, HI, HM, MM⟩ := hrel
    by_cases hjl : j < l.length
    · obtain ⟨g, off, rfl, hg, hgl, hc⟩ := hvx j _ (fnV_get hjl)
      have c0 := keepF MM.out (fun e => hg e) hc
      have t1 : decide ((j : Int) < (l.length : Int)) = true := by simp; omega
      have j1 : (0 : Int) ≤ (j : Int) := by omega
      have j2 : (j : Int) < (l.length : Int) := by omega
      have j3 : (l.length : Int) ≤ (cap : Int) := by omega
      have hT := fld_c l[j] bp br bm (· = bp) P [] false false _ wr HI.out HM.out (fun k hk e => hne (by rw [← e, hk])) hP
      have hE := fld_enters l[j]
      have HS := Lib.hid (take_foldl Fld.clear m l hjl)
      generalize l[j] = f at *
      clear hc hvx
      go_wp2_with fail
      refine hT.mono ?_
      rintro e w2 ⟨rfl, h2, q2⟩
      have HM2 := Lib.hid h2
      have HI2 := Lib.hid (HI.out.mod q2 (fun k hk e => hne (by rw [← hk, e])))
      have MM2 := Lib.hid (MM.out.trans q2)
      clear hT h2 q2 HI HM MM hE c0
      go_wp2
      go_roundw
      case rel => exact ⟨j + 1, hjl, by go_num, HI2.out, by rw [HS.out]; exact HM2.out, MM2.out⟩
      case measure => simp [intOf]; omega
    · obtain rfl : j = l.length := by omega
      have t1 : decide ((l.length : Int) < (l.length : Int)) = false := by simp
      clear hvx
      go_wp2
      go_ret
      exact ⟨_, rfl, by have := HM.out; rw [List.take_length] at this; exact this, MM.out⟩
theorem wr_fold_le (m : Msg) (l : List Fld) (o : Wr) (h : o.1.length ≤ 8192) : (l.foldl (Fld.wr m) o).1.length ≤ 8192 := by
  induction l generalizing o with
  | nil => exact h
  | cons f l ih => exact ih _ (Fld.wr_le m o f h)
set_option maxHeartbeats 2000000 in
theorem done_w (s : ByteArray) (bm : Nat) (P : Nat → Prop) (m : Msg) (v : Value) (l : List Fld) (w : World) (hv : SlAt w (fun _ => True) v (fnV l)) (hl : l.length ≤ 1000000) (hm : MsgAt w P bm m) (hml : bm < w.heap.size) (hP : ∀ g, P g → g < w.heap.size) (hk : m.Ok) (hs : m.Small) :
    Calls Tryz.prog 28 #[.int .i64 0, .string s, .pointer (some ⟨bm, 0, none⟩), v] w fun e w' => ∃ bp br F', e = .returned (.pointer (some ⟨bp, 0, none⟩)) ∧ PenAt w' F' bp 0 (l.foldl (Fld.wr m) ([], false)).1 br (l.foldl (Fld.wr m) ([], false)).2 false ∧ (∀ k, F' k → w.heap.size ≤ k) ∧ Mod (fun _ => False) w w' := by
  have hN := new_any s w
  obtain ⟨a, cap, rfl, hcap, hvx⟩ := hv.form
  rw [fnV_length] at hcap ⊢
  go_enter Tryz.func28, Tryz.ntmps28
  go_wp2_with fail
  refine hN.mono ?_
  rintro e w1 ⟨rfl, hr1, m1⟩
  obtain ⟨br, hbr⟩ : ∃ br, w.heap.size = br := ⟨_, rfl⟩
  obtain ⟨bp, hbp⟩ : ∃ bp, w1.heap.size = bp := ⟨_, rfl⟩
  obtain ⟨W, hW⟩ : ∃ W, w1.alloc (.cells #[.int .i64 0, .pointer none, .slice none 0 0, .pointer (some ⟨br, 0, none⟩), .bool false, .bool false] 72) = W := ⟨_, rfl⟩
  have hp : PenAt W (· = bp) bp 0 [] br false false := by rw [← hW, ← hbp]; exact PenAt.made w1 0 br
  have m2 : Mod (fun _ => False) w W := by rw [← hW]; exact m1.alloc _
  have hrW : W.heap[br]? = some (rdO ⟨s, 0, 0⟩) := by rw [← hW, ← hbr]; exact alloc_keep hr1
  have hbl : br < bp := by rw [← hbp, ← hbr]; exact lt_of hr1
  have HI : Hid (∃ F', PenAt W F' bp 0 (([] : List Fld).foldl (Fld.wr m) ([], false)).1 br (([] : List Fld).foldl (Fld.wr m) ([], false)).2 false ∧ (∀ k, F' k → bp ≤ k)) := ⟨_, hp, fun k hk => by omega⟩
  have M2 := Lib.hid m2
  have HR := Lib.hid hrW
  have HM := Lib.hid hm
  clear hp m2 m1 hr1 hN hv hm hrW
  go_wp2
  go_loopw [11, 19] (fun _ i wr => ∃ (j : Nat), j ≤ l.length ∧ i = .int .i64 j ∧ Hid (∃ F', PenAt wr F' bp 0 ((l.take j).foldl (Fld.wr m) ([], false)).1 br ((l.take j).foldl (Fld.wr m) ([], false)).2 false ∧ (∀ k, F' k → bp ≤ k)) ∧ Hid (Mod (fun _ => False) w wr) ∧ Hid (wr.heap[br]? = some (rdO ⟨s, 0, 0⟩))) (fun _ i _ => l.length - (intOf i).toNat)
  case atStart => exact ⟨0, Nat.zero_le _, rfl, HI.out, M2.out, HR.out⟩
  case round =>
    clear HI M2 hW HR
    obtain ⟨j, hj, rfl, HI, MM, HR⟩ := hrel
    by_cases hjl : j < l.length
    · obtain ⟨g, off, rfl, hg, hgl, hc⟩ := hvx j _ (fnV_get hjl)
      have c0 := keepR MM.out hc
      have t1 : decide ((j : Int) < (l.length : Int)) = true := by simp; omega
      have j1 : (0 : Int) ≤ (j : Int) := by omega
      have j2 : (j : Int) < (l.length : Int) := by omega
      have j3 : (l.length : Int) ≤ (cap : Int) := by omega
      obtain ⟨F', hp, hF⟩ := HI.out
      have hT := fld_w l[j] bp br bm F' P _ false ⟨s, 0, 0⟩ m wr hp (HM.out.mod MM.out (fun x => x) (fun _ _ x => x)) (fun g hg x => by have := hF g x; have := hP g hg; omega) (fun x => by have := hF bm x; omega) HR.out rfl (fun x => by have := hF br x; omega) hk hs (wr_fold_le m _ _ (Nat.zero_le _))
      have hE := fld_enters l[j]
      have HS := Lib.hid (take_foldl (Fld.wr m) ([], false) l hjl)
      have hbpl : bp < wr.heap.size := hp.lt _ hp.fb
      generalize l[j] = f at *
      clear hc hvx
      go_wp2_with fail
      refine hT.mono ?_
      rintro e w2 ⟨rfl, F2, h2, q2, g2⟩
      have HI2 : Hid (∃ F', PenAt w2 F' bp 0 ((l.take (j + 1)).foldl (Fld.wr m) ([], false)).1 br ((l.take (j + 1)).foldl (Fld.wr m) ([], false)).2 false ∧ (∀ k, F' k → bp ≤ k)) := by
        refine ⟨F2, by rw [HS.out]; exact h2, fun k hk => ?_⟩
        rcases g2 k hk with x | x
        · exact hF k x
        · omega
      have MM2 : Hid (Mod (fun _ => False) w w2) := MM.out.trans' q2 fun k hk x => by have := hF k x; omega
      have HR2 := Lib.hid ((q2.block br (lt_of HR.out) (fun x => by have := hF br x; omega)).trans HR.out)
      clear hT h2 q2 HI MM hE c0 hp hF g2 HR
      go_wp2
      go_roundw
      case rel => exact ⟨j + 1, hjl, by go_num, HI2.out, MM2.out, HR2.out⟩
      case measure => simp [intOf]; omega
    · obtain rfl : j = l.length := by omega
      have t1 : decide ((l.length : Int) < (l.length : Int)) = false := by simp
      clear hvx
      go_wp2
      go_ret
      obtain ⟨F', hp, hF⟩ := HI.out
      rw [List.take_length] at hp
      exact ⟨_, br, F', rfl, hp, fun k hk => by have := hF k hk; omega, MM.out⟩
theorem fnN_fold (l : List Fld) (b : Bool) (hb : b = true) (h : Fld.names ∉ l) : l.foldl Fld.fnN b = true := by
  induction l generalizing b with
  | nil => exact hb
  | cons f l ih =>
    simp only [List.mem_cons, not_or] at h
    refine ih _ ?_ h.2
    subst hb
    cases f <;> first | rfl | exact absurd rfl h.1
theorem fnQ_fold (l : List Fld) (b : Bool) (hb : b = true) (h : Fld.qids ∉ l) : l.foldl Fld.fnQ b = true := by
  induction l generalizing b with
  | nil => exact hb
  | cons f l ih =>
    simp only [List.mem_cons, not_or] at h
    refine ih _ ?_ h.2
    subst hb
    cases f <;> first | rfl | exact absurd rfl h.1
theorem notin_take {l : List Fld} (h : l.Nodup) {j : Nat} (hj : j < l.length) : l[j] ∉ l.take j := by
  rw [← List.take_append_drop j l, List.nodup_append] at h
  intro hm
  rw [List.drop_eq_getElem_cons hj] at h
  exact h.2.2 _ hm _ (List.mem_cons_self ..) rfl
set_option maxHeartbeats 2000000 in
theorem done_r (s : ByteArray) (bm : Nat) (m : Msg) (v : Value) (l : List Fld) (w : World) (hv : SlAt w (fun g => g ≠ bm) v (fnV l)) (hl : l.length ≤ 1000000) (hnd : l.Nodup) (hm : w.heap[bm]? = some (msgO m (.slice none 0 0) (.slice none 0 0))) (hn : m.names = []) (hq : m.qids = []) (hs : s.size ≤ maxLen) :
    Calls Tryz.prog 28 #[.int .i64 1, .string s, .pointer (some ⟨bm, 0, none⟩), v] w fun e w' => ∃ bp br B fn fq, e = .returned (.pointer (some ⟨bp, 0, none⟩)) ∧ ReAt w' B bp br bm (l.foldl Fld.rd ⟨m, ⟨s, 0, 0⟩, false, false⟩) fn fq ∧ Mod (· = bm) w w' ∧ w.heap.size ≤ B := by
  have hN := new_any s w
  obtain ⟨a, cap, rfl, hcap, hvx⟩ := hv.form
  rw [fnV_length] at hcap ⊢
  have hml := lt_of hm
  go_enter Tryz.func28, Tryz.ntmps28
  go_wp2_with fail
  refine hN.mono ?_
  rintro e w1 ⟨rfl, hr1, m1⟩
  obtain ⟨br, hbr⟩ : ∃ br, w.heap.size = br := ⟨_, rfl⟩
  obtain ⟨bp, hbp⟩ : ∃ bp, w1.heap.size = bp := ⟨_, rfl⟩
  obtain ⟨W, hW⟩ : ∃ W, w1.alloc (.cells #[.int .i64 1, .pointer none, .slice none 0 0, .pointer (some ⟨br, 0, none⟩), .bool false, .bool false] 72) = W := ⟨_, rfl⟩
  have hp : PenAt W (· = bp) bp 1 [] br false false := by rw [← hW, ← hbp]; exact PenAt.made w1 1 br
  have m2 : Mod (fun _ => False) w W := by rw [← hW]; exact m1.alloc _
  have hrW : W.heap[br]? = some (rdO ⟨s, 0, 0⟩) := by rw [← hW, ← hbr]; exact alloc_keep hr1
  have hbl : br < bp := by rw [← hbp, ← hbr]; exact lt_of hr1
  have hbW : bp < W.heap.size := hp.lt _ rfl
  have hmW := (m2.block bm hml (fun x => x)).trans hm
  have HI : Hid (ReAt W W.heap.size bp br bm ⟨m, ⟨s, 0, 0⟩, false, false⟩ true true) :=
    ⟨hp, ⟨_, _, hmW, by rw [hn]; exact World.ownsRow_nil _ _ _ _, by rw [hq]; exact World.ownsRow_nil _ _ _ _, fun _ => rfl, fun _ => rfl⟩, hrW, ⟨hs, Nat.zero_le _⟩, by omega, by omega, Nat.le_refl _⟩
  obtain ⟨B, hB⟩ : ∃ B, W.heap.size = B := ⟨_, rfl⟩
  rw [hB] at HI hbW
  have hwB : w.heap.size ≤ B := by rw [← hB]; exact m2.size
  have M2 := Lib.hid m2
  clear hp m2 m1 hr1 hN hv hm hrW hmW hn hq hs
  go_wp2
  go_loopw [11, 19] (fun _ i wr => ∃ (j : Nat), j ≤ l.length ∧ i = .int .i64 j ∧ Hid (ReAt wr B bp br bm ((l.take j).foldl Fld.rd ⟨m, ⟨s, 0, 0⟩, false, false⟩) ((l.take j).foldl Fld.fnN true) ((l.take j).foldl Fld.fnQ true)) ∧ Hid (Mod (· = bm) w wr)) (fun _ i _ => l.length - (intOf i).toNat)
  case atStart => exact ⟨0, Nat.zero_le _, rfl, HI.out, M2.out.mono fun _ _ x => x.elim⟩
  case round =>
    clear HI M2 hW
    obtain ⟨j, hj, rfl, HI, MM⟩ := hrel
    by_cases hjl : j < l.length
    · obtain ⟨g, off, rfl, hg, hgl, hc⟩ := hvx j _ (fnV_get hjl)
      have c0 := keepF MM.out (fun e => hg e) hc
      have t1 : decide ((j : Int) < (l.length : Int)) = true := by simp; omega
      have j1 : (0 : Int) ≤ (j : Int) := by omega
      have j2 : (j : Int) < (l.length : Int) := by omega
      have j3 : (l.length : Int) ≤ (cap : Int) := by omega
      have hni := notin_take hnd hjl
      have hT := fld_r l[j] B bp br bm _ _ _ wr HI.out (fun e => fnN_fold _ _ rfl (e ▸ hni)) (fun e => fnQ_fold _ _ rfl (e ▸ hni))
      have hE := fld_enters l[j]
      have HS := Lib.hid (take_foldl Fld.rd ⟨m, ⟨s, 0, 0⟩, false, false⟩ l hjl)
      have HS2 := Lib.hid (take_foldl Fld.fnN true l hjl)
      have HS3 := Lib.hid (take_foldl Fld.fnQ true l hjl)
      generalize l[j] = f at *
      clear hc hvx
      go_wp2_with fail
      refine hT.mono ?_
      rintro e w2 ⟨rfl, h2, q2⟩
      have HI2 := Lib.hid h2
      have MM2 : Hid (Mod (· = bm) w w2) := MM.out.trans' q2 fun k hk x => by rcases x with (x | x) | x <;> omega
      clear hT h2 q2 HI MM hE c0 hni
      go_wp2
      go_roundw
      case rel => exact ⟨j + 1, hjl, by go_num, by rw [HS.out, HS2.out, HS3.out]; exact HI2.out, MM2.out⟩
      case measure => simp [intOf]; omega
    · obtain rfl : j = l.length := by omega
      have t1 : decide ((l.length : Int) < (l.length : Int)) = false := by simp
      clear hvx
      go_wp2
      go_ret
      have h := HI.out
      rw [List.take_length] at h
      exact ⟨_, br, B, _, _, rfl, h, MM.out, hwB⟩
end Go.Proofs.YtklpopmjpgdjnaaGreatDoor
