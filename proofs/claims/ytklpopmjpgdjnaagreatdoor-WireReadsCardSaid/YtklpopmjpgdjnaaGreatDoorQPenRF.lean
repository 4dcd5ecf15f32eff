/- Package wire's fields, read: each of the twenty. -/
import Derived.Test.YtklpopmjpgdjnaaGreatDoorQPenRQ
set_option linter.unusedVariables false
set_option linter.unusedSimpArgs false
namespace Go.Proofs.YtklpopmjpgdjnaaGreatDoor
open Go.RowKit

/-- the message that is read into: its cells, and its two lists, its own; fn, fq: a list that was not yet read is nil -/
structure RMsg (w : World) (B bm : Nat) (m : Msg) (fn fq : Bool) (vn vq : Value) : Prop where
  obj : w.heap[bm]? = some (msgO m vn vq)
  names : w.ownsRow B 9 1 vn m.names.length (m.names.map .string)
  qids : w.ownsRow B 28 3 vq m.qids.length (flatR Qd.cells m.qids)
  n0 : fn = true → vn = .slice none 0 0
  q0 : fq = true → vq = .slice none 0 0
theorem lt36 {m : Msg} {vn vq : Value} (i : Nat) (h : i < 36) : i < (m.cells vn vq).toArray.size := h
theorem le36 {m : Msg} {vn vq : Value} (i : Nat) (h : i ≤ 36) : i ≤ (m.cells vn vq).toArray.size := h
structure ReAt (w : World) (B bp br bm : Nat) (s : Re) (fn fq : Bool) : Prop where
  pen : PenAt w (· = bp) bp 1 [] br s.long s.wrong
  msg : ∃ vn vq, RMsg w B bm s.m fn fq vn vq
  rd : w.heap[br]? = some (rdO s.q)
  ok : s.q.s.size ≤ maxLen ∧ s.q.at_ ≤ s.q.s.size
  ne : (bp ≠ br ∧ bp ≠ bm) ∧ bm ≠ br
  lt : (bp < B ∧ br < B) ∧ bm < B
  le : B ≤ w.heap.size
/-- what a field function may write -/
abbrev RS (bp br bm : Nat) : Nat → Prop := fun k => (k = br ∨ k = bm) ∨ k = bp
theorem RMsg.rows {w w' : World} {B bm bp br : Nat} {m m' : Msg} {fn fq : Bool} {vn vq : Value} (h : RMsg w B bm m fn fq vn vq) (hm : Mod (RS bp br bm) w w') (hl : (bp < B ∧ br < B) ∧ bm < B) (ho : w'.heap[bm]? = some (msgO m' vn vq)) (e1 : m'.names = m.names) (e2 : m'.qids = m.qids) : RMsg w' B bm m' fn fq vn vq :=
  ⟨ho, by rw [e1]; exact owns_modR hm h.names fun k hk x => by { have := (h.names.lt k hk.symm).1; rcases x with (x | x) | x <;> omega },
   by rw [e2]; exact owns_modR hm h.qids fun k hk x => by { have := (h.qids.lt k hk.symm).1; rcases x with (x | x) | x <;> omega }, h.n0, h.q0⟩
theorem ReAt.put1 {w w' : World} {B bp br bm i : Nat} {s s' : Re} {fn fq : Bool} {v : Value} (h : ReAt w B bp br bm s fn fq) (p : Put1 w w' br bm i v s'.q) (hm : ∀ vn vq, Obj.cells ((s.m.cells vn vq).toArray.setIfInBounds i v) 33 (0, 0) = msgO s'.m vn vq) (e1 : s'.m.names = s.m.names) (e2 : s'.m.qids = s.m.qids) (e3 : s'.long = s.long) (e4 : s'.wrong = s.wrong)
    (hok : s'.q.s.size ≤ maxLen ∧ s'.q.at_ ≤ s'.q.s.size) : ReAt w' B bp br bm s' fn fq ∧ Mod (RS bp br bm) w w' := by
  obtain ⟨vn, vq, hM⟩ := h.msg
  have hmd : Mod (RS bp br bm) w w' := p.md.mono fun k _ x => Or.inl x
  refine ⟨⟨by rw [e3, e4]; exact h.pen.mod p.md (fun k hk x => by have := h.ne; rcases hk with e | e <;> omega), ⟨vn, vq, hM.rows hmd h.lt ((p.obj _ _ hM.obj).trans (congrArg some (hm vn vq))) e1 e2⟩, p.rd, hok, h.ne, h.lt, Nat.le_trans h.le hmd.size⟩, hmd⟩
theorem ReAt.putQ {w w' : World} {B bp br bm : Nat} {s s' : Re} {fn fq : Bool} {q : Qd} (h : ReAt w B bp br bm s fn fq) (p : PutQ w w' br bm 13 q s'.q) (hm : ∀ vn vq, Obj.cells ((((s.m.cells vn vq).toArray.setIfInBounds 13 (.int .u8 q.t)).setIfInBounds (13 + 1) (.int .u32 q.v)).setIfInBounds (13 + 2) (.int .u64 q.p)) 33 (0, 0) = msgO s'.m vn vq) (e1 : s'.m.names = s.m.names) (e2 : s'.m.qids = s.m.qids) (e3 : s'.long = s.long) (e4 : s'.wrong = s.wrong)
    (hok : s'.q.s.size ≤ maxLen ∧ s'.q.at_ ≤ s'.q.s.size) : ReAt w' B bp br bm s' fn fq ∧ Mod (RS bp br bm) w w' := by
  obtain ⟨vn, vq, hM⟩ := h.msg
  have hmd : Mod (RS bp br bm) w w' := p.md.mono fun k _ x => Or.inl x
  refine ⟨⟨by rw [e3, e4]; exact h.pen.mod p.md (fun k hk x => by have := h.ne; rcases hk with e | e <;> omega), ⟨vn, vq, hM.rows hmd h.lt ((p.obj _ _ hM.obj).trans (congrArg some (hm vn vq))) e1 e2⟩, p.rd, hok, h.ne, h.lt, Nat.le_trans h.le hmd.size⟩, hmd⟩
theorem rdData_ok {r : Rd} (h : r.s.size ≤ maxLen ∧ r.at_ ≤ r.s.size) : (rdData r).2.s.size ≤ maxLen ∧ (rdData r).2.at_ ≤ (rdData r).2.s.size := by
  have h2 := Rd.num_ok 4 h
  exact ⟨by unfold rdData; rw [Rd.bytes_s]; exact h2.1, Rd.bytes_at _ _ h2.2⟩
/-- whether a list is still unread behind a field -/
def Fld.fnN (fn : Bool) : Fld → Bool
  | .names => false
  | _ => fn
def Fld.fnQ (fq : Bool) : Fld → Bool
  | .qids => false
  | _ => fq
set_option maxHeartbeats 1000000 in
theorem fr_msize (B bp br bm : Nat) (s : Re) (fn fq : Bool) (w : World) (h : ReAt w B bp br bm s fn fq) (hN : Fld.msize = .names → fn = true) (hQ : Fld.msize = .qids → fq = true) :
    Calls Tryz.prog 52 #[.pointer (some ⟨bp, 0, none⟩), .pointer (some ⟨bm, 0, none⟩)] w fun e w' => e = .returned (.tuple #[]) ∧ ReAt w' B bp br bm (Fld.rd s .msize) (Fld.fnN fn .msize) (Fld.fnQ fq .msize) ∧ Mod (RS bp br bm) w w' := by
  obtain ⟨vn, vq, hM⟩ := h.msg
  have hO := hM.obj
  have hT := pu32_r bp br bm 2 _ [] _ _ s.q _ _ w h.pen hO (lt36 _ (by decide)) h.ne.2 h.rd h.ok.1 h.ok.2
  have H := Lib.hid h
  have HM := Lib.hid hM
  clear h hM hO
  go_enter Tryz.func52, Tryz.ntmps52
  go_wp2_with fail
  refine hT.mono ?_
  rintro e w1 ⟨rfl, hp⟩
  clear hT
  go_wp2
  go_end0
  refine ⟨rfl, ?_⟩
  exact H.out.put1 (s' := Fld.rd s .msize) hp (fun _ _ => rfl) rfl rfl rfl rfl (Rd.num_ok 4 H.out.ok)
set_option maxHeartbeats 1000000 in
theorem fr_version (B bp br bm : Nat) (s : Re) (fn fq : Bool) (w : World) (h : ReAt w B bp br bm s fn fq) (hN : Fld.version = .names → fn = true) (hQ : Fld.version = .qids → fq = true) :
    Calls Tryz.prog 53 #[.pointer (some ⟨bp, 0, none⟩), .pointer (some ⟨bm, 0, none⟩)] w fun e w' => e = .returned (.tuple #[]) ∧ ReAt w' B bp br bm (Fld.rd s .version) (Fld.fnN fn .version) (Fld.fnQ fq .version) ∧ Mod (RS bp br bm) w w' := by
  obtain ⟨vn, vq, hM⟩ := h.msg
  have hO := hM.obj
  have hT := ptext_r bp br bm 3 _ [] _ _ s.q _ _ w h.pen h.ne.1.1 hO (lt36 _ (by decide)) h.ne.2 h.rd h.ok.1 h.ok.2
  have H := Lib.hid h
  have HM := Lib.hid hM
  clear h hM hO
  go_enter Tryz.func53, Tryz.ntmps53
  go_wp2_with fail
  refine hT.mono ?_
  rintro e w1 ⟨rfl, hp⟩
  clear hT
  go_wp2
  go_end0
  refine ⟨rfl, ?_⟩
  exact H.out.put1 (s' := Fld.rd s .version) hp (fun _ _ => rfl) rfl rfl rfl rfl (rd_text_ok H.out.ok)
set_option maxHeartbeats 1000000 in
theorem fr_fid (B bp br bm : Nat) (s : Re) (fn fq : Bool) (w : World) (h : ReAt w B bp br bm s fn fq) (hN : Fld.fid = .names → fn = true) (hQ : Fld.fid = .qids → fq = true) :
    Calls Tryz.prog 58 #[.pointer (some ⟨bp, 0, none⟩), .pointer (some ⟨bm, 0, none⟩)] w fun e w' => e = .returned (.tuple #[]) ∧ ReAt w' B bp br bm (Fld.rd s .fid) (Fld.fnN fn .fid) (Fld.fnQ fq .fid) ∧ Mod (RS bp br bm) w w' := by
  obtain ⟨vn, vq, hM⟩ := h.msg
  have hO := hM.obj
  have hT := pu32_r bp br bm 4 _ [] _ _ s.q _ _ w h.pen hO (lt36 _ (by decide)) h.ne.2 h.rd h.ok.1 h.ok.2
  have H := Lib.hid h
  have HM := Lib.hid hM
  clear h hM hO
  go_enter Tryz.func58, Tryz.ntmps58
  go_wp2_with fail
  refine hT.mono ?_
  rintro e w1 ⟨rfl, hp⟩
  clear hT
  go_wp2
  go_end0
  refine ⟨rfl, ?_⟩
  exact H.out.put1 (s' := Fld.rd s .fid) hp (fun _ _ => rfl) rfl rfl rfl rfl (Rd.num_ok 4 H.out.ok)
set_option maxHeartbeats 1000000 in
theorem fr_afid (B bp br bm : Nat) (s : Re) (fn fq : Bool) (w : World) (h : ReAt w B bp br bm s fn fq) (hN : Fld.afid = .names → fn = true) (hQ : Fld.afid = .qids → fq = true) :
    Calls Tryz.prog 54 #[.pointer (some ⟨bp, 0, none⟩), .pointer (some ⟨bm, 0, none⟩)] w fun e w' => e = .returned (.tuple #[]) ∧ ReAt w' B bp br bm (Fld.rd s .afid) (Fld.fnN fn .afid) (Fld.fnQ fq .afid) ∧ Mod (RS bp br bm) w w' := by
  obtain ⟨vn, vq, hM⟩ := h.msg
  have hO := hM.obj
  have hT := pu32_r bp br bm 5 _ [] _ _ s.q _ _ w h.pen hO (lt36 _ (by decide)) h.ne.2 h.rd h.ok.1 h.ok.2
  have H := Lib.hid h
  have HM := Lib.hid hM
  clear h hM hO
  go_enter Tryz.func54, Tryz.ntmps54
  go_wp2_with fail
  refine hT.mono ?_
  rintro e w1 ⟨rfl, hp⟩
  clear hT
  go_wp2
  go_end0
  refine ⟨rfl, ?_⟩
  exact H.out.put1 (s' := Fld.rd s .afid) hp (fun _ _ => rfl) rfl rfl rfl rfl (Rd.num_ok 4 H.out.ok)
set_option maxHeartbeats 1000000 in
theorem fr_newfid (B bp br bm : Nat) (s : Re) (fn fq : Bool) (w : World) (h : ReAt w B bp br bm s fn fq) (hN : Fld.newfid = .names → fn = true) (hQ : Fld.newfid = .qids → fq = true) :
    Calls Tryz.prog 61 #[.pointer (some ⟨bp, 0, none⟩), .pointer (some ⟨bm, 0, none⟩)] w fun e w' => e = .returned (.tuple #[]) ∧ ReAt w' B bp br bm (Fld.rd s .newfid) (Fld.fnN fn .newfid) (Fld.fnQ fq .newfid) ∧ Mod (RS bp br bm) w w' := by
  obtain ⟨vn, vq, hM⟩ := h.msg
  have hO := hM.obj
  have hT := pu32_r bp br bm 6 _ [] _ _ s.q _ _ w h.pen hO (lt36 _ (by decide)) h.ne.2 h.rd h.ok.1 h.ok.2
  have H := Lib.hid h
  have HM := Lib.hid hM
  clear h hM hO
  go_enter Tryz.func61, Tryz.ntmps61
  go_wp2_with fail
  refine hT.mono ?_
  rintro e w1 ⟨rfl, hp⟩
  clear hT
  go_wp2
  go_end0
  refine ⟨rfl, ?_⟩
  exact H.out.put1 (s' := Fld.rd s .newfid) hp (fun _ _ => rfl) rfl rfl rfl rfl (Rd.num_ok 4 H.out.ok)
set_option maxHeartbeats 1000000 in
theorem fr_oldtag (B bp br bm : Nat) (s : Re) (fn fq : Bool) (w : World) (h : ReAt w B bp br bm s fn fq) (hN : Fld.oldtag = .names → fn = true) (hQ : Fld.oldtag = .qids → fq = true) :
    Calls Tryz.prog 60 #[.pointer (some ⟨bp, 0, none⟩), .pointer (some ⟨bm, 0, none⟩)] w fun e w' => e = .returned (.tuple #[]) ∧ ReAt w' B bp br bm (Fld.rd s .oldtag) (Fld.fnN fn .oldtag) (Fld.fnQ fq .oldtag) ∧ Mod (RS bp br bm) w w' := by
  obtain ⟨vn, vq, hM⟩ := h.msg
  have hO := hM.obj
  have hT := pu16_r bp br bm 7 _ [] _ _ s.q _ _ w h.pen hO (lt36 _ (by decide)) h.ne.2 h.rd h.ok.1 h.ok.2
  have H := Lib.hid h
  have HM := Lib.hid hM
  clear h hM hO
  go_enter Tryz.func60, Tryz.ntmps60
  go_wp2_with fail
  refine hT.mono ?_
  rintro e w1 ⟨rfl, hp⟩
  clear hT
  go_wp2
  go_end0
  refine ⟨rfl, ?_⟩
  exact H.out.put1 (s' := Fld.rd s .oldtag) hp (fun _ _ => rfl) rfl rfl rfl rfl (Rd.num_ok 2 H.out.ok)
set_option maxHeartbeats 1000000 in
theorem fr_uname (B bp br bm : Nat) (s : Re) (fn fq : Bool) (w : World) (h : ReAt w B bp br bm s fn fq) (hN : Fld.uname = .names → fn = true) (hQ : Fld.uname = .qids → fq = true) :
    Calls Tryz.prog 55 #[.pointer (some ⟨bp, 0, none⟩), .pointer (some ⟨bm, 0, none⟩)] w fun e w' => e = .returned (.tuple #[]) ∧ ReAt w' B bp br bm (Fld.rd s .uname) (Fld.fnN fn .uname) (Fld.fnQ fq .uname) ∧ Mod (RS bp br bm) w w' := by
  obtain ⟨vn, vq, hM⟩ := h.msg
  have hO := hM.obj
  have hT := ptext_r bp br bm 8 _ [] _ _ s.q _ _ w h.pen h.ne.1.1 hO (lt36 _ (by decide)) h.ne.2 h.rd h.ok.1 h.ok.2
  have H := Lib.hid h
  have HM := Lib.hid hM
  clear h hM hO
  go_enter Tryz.func55, Tryz.ntmps55
  go_wp2_with fail
  refine hT.mono ?_
  rintro e w1 ⟨rfl, hp⟩
  clear hT
  go_wp2
  go_end0
  refine ⟨rfl, ?_⟩
  exact H.out.put1 (s' := Fld.rd s .uname) hp (fun _ _ => rfl) rfl rfl rfl rfl (rd_text_ok H.out.ok)
set_option maxHeartbeats 1000000 in
theorem fr_aname (B bp br bm : Nat) (s : Re) (fn fq : Bool) (w : World) (h : ReAt w B bp br bm s fn fq) (hN : Fld.aname = .names → fn = true) (hQ : Fld.aname = .qids → fq = true) :
    Calls Tryz.prog 56 #[.pointer (some ⟨bp, 0, none⟩), .pointer (some ⟨bm, 0, none⟩)] w fun e w' => e = .returned (.tuple #[]) ∧ ReAt w' B bp br bm (Fld.rd s .aname) (Fld.fnN fn .aname) (Fld.fnQ fq .aname) ∧ Mod (RS bp br bm) w w' := by
  obtain ⟨vn, vq, hM⟩ := h.msg
  have hO := hM.obj
  have hT := ptext_r bp br bm 9 _ [] _ _ s.q _ _ w h.pen h.ne.1.1 hO (lt36 _ (by decide)) h.ne.2 h.rd h.ok.1 h.ok.2
  have H := Lib.hid h
  have HM := Lib.hid hM
  clear h hM hO
  go_enter Tryz.func56, Tryz.ntmps56
  go_wp2_with fail
  refine hT.mono ?_
  rintro e w1 ⟨rfl, hp⟩
  clear hT
  go_wp2
  go_end0
  refine ⟨rfl, ?_⟩
  exact H.out.put1 (s' := Fld.rd s .aname) hp (fun _ _ => rfl) rfl rfl rfl rfl (rd_text_ok H.out.ok)
set_option maxHeartbeats 1000000 in
theorem fr_ename (B bp br bm : Nat) (s : Re) (fn fq : Bool) (w : World) (h : ReAt w B bp br bm s fn fq) (hN : Fld.ename = .names → fn = true) (hQ : Fld.ename = .qids → fq = true) :
    Calls Tryz.prog 59 #[.pointer (some ⟨bp, 0, none⟩), .pointer (some ⟨bm, 0, none⟩)] w fun e w' => e = .returned (.tuple #[]) ∧ ReAt w' B bp br bm (Fld.rd s .ename) (Fld.fnN fn .ename) (Fld.fnQ fq .ename) ∧ Mod (RS bp br bm) w w' := by
  obtain ⟨vn, vq, hM⟩ := h.msg
  have hO := hM.obj
  have hT := ptext_r bp br bm 10 _ [] _ _ s.q _ _ w h.pen h.ne.1.1 hO (lt36 _ (by decide)) h.ne.2 h.rd h.ok.1 h.ok.2
  have H := Lib.hid h
  have HM := Lib.hid hM
  clear h hM hO
  go_enter Tryz.func59, Tryz.ntmps59
  go_wp2_with fail
  refine hT.mono ?_
  rintro e w1 ⟨rfl, hp⟩
  clear hT
  go_wp2
  go_end0
  refine ⟨rfl, ?_⟩
  exact H.out.put1 (s' := Fld.rd s .ename) hp (fun _ _ => rfl) rfl rfl rfl rfl (rd_text_ok H.out.ok)
set_option maxHeartbeats 1000000 in
theorem fr_name (B bp br bm : Nat) (s : Re) (fn fq : Bool) (w : World) (h : ReAt w B bp br bm s fn fq) (hN : Fld.name = .names → fn = true) (hQ : Fld.name = .qids → fq = true) :
    Calls Tryz.prog 66 #[.pointer (some ⟨bp, 0, none⟩), .pointer (some ⟨bm, 0, none⟩)] w fun e w' => e = .returned (.tuple #[]) ∧ ReAt w' B bp br bm (Fld.rd s .name) (Fld.fnN fn .name) (Fld.fnQ fq .name) ∧ Mod (RS bp br bm) w w' := by
  obtain ⟨vn, vq, hM⟩ := h.msg
  have hO := hM.obj
  have hT := ptext_r bp br bm 11 _ [] _ _ s.q _ _ w h.pen h.ne.1.1 hO (lt36 _ (by decide)) h.ne.2 h.rd h.ok.1 h.ok.2
  have H := Lib.hid h
  have HM := Lib.hid hM
  clear h hM hO
  go_enter Tryz.func66, Tryz.ntmps66
  go_wp2_with fail
  refine hT.mono ?_
  rintro e w1 ⟨rfl, hp⟩
  clear hT
  go_wp2
  go_end0
  refine ⟨rfl, ?_⟩
  exact H.out.put1 (s' := Fld.rd s .name) hp (fun _ _ => rfl) rfl rfl rfl rfl (rd_text_ok H.out.ok)
set_option maxHeartbeats 1000000 in
theorem fr_names (B bp br bm : Nat) (s : Re) (fn fq : Bool) (w : World) (h : ReAt w B bp br bm s fn fq) (hN : Fld.names = .names → fn = true) (hQ : Fld.names = .qids → fq = true) :
    Calls Tryz.prog 62 #[.pointer (some ⟨bp, 0, none⟩), .pointer (some ⟨bm, 0, none⟩)] w fun e w' => e = .returned (.tuple #[]) ∧ ReAt w' B bp br bm (Fld.rd s .names) (Fld.fnN fn .names) (Fld.fnQ fq .names) ∧ Mod (RS bp br bm) w w' := by
  obtain ⟨vn, vq, hM⟩ := h.msg
  have hO := hM.obj
  have hT := list_names_r bp br bm (· = bp) [] s.long s.wrong s.q _ _ w h.pen (fun k hk => by have := h.ne; subst hk; exact this.1) hO (by rw [hM.n0 (hN rfl)]; rfl) h.ne.2 h.rd h.ok
  have H := Lib.hid h
  have HM := Lib.hid hM
  clear h hM hO
  go_enter Tryz.func62, Tryz.ntmps62
  go_wp2_with fail
  refine hT.mono ?_
  rintro e w1 ⟨rfl, hp⟩
  clear hT
  go_wp2
  go_end0
  refine ⟨rfl, ?_⟩
  obtain ⟨v', h1, h2, h3, h4, h5⟩ := hp
  have hmd : Mod (RS bp br bm) w w1 := h5
  exact ⟨⟨h4, ⟨v', vq, ⟨h1, owns_base h2 H.out.le, owns_modR hmd HM.out.qids fun k hk x => by { have := (HM.out.qids.lt k hk.symm).1; have := H.out.lt; rcases x with (x | x) | x <;> omega }, fun x => (by cases x), HM.out.q0⟩⟩, h3, rdTexts_ok _ _ _ (Rd.num_ok 2 H.out.ok), H.out.ne, H.out.lt, Nat.le_trans H.out.le hmd.size⟩, hmd⟩
set_option maxHeartbeats 1000000 in
theorem fr_qid (B bp br bm : Nat) (s : Re) (fn fq : Bool) (w : World) (h : ReAt w B bp br bm s fn fq) (hN : Fld.qid = .names → fn = true) (hQ : Fld.qid = .qids → fq = true) :
    Calls Tryz.prog 57 #[.pointer (some ⟨bp, 0, none⟩), .pointer (some ⟨bm, 0, none⟩)] w fun e w' => e = .returned (.tuple #[]) ∧ ReAt w' B bp br bm (Fld.rd s .qid) (Fld.fnN fn .qid) (Fld.fnQ fq .qid) ∧ Mod (RS bp br bm) w w' := by
  obtain ⟨vn, vq, hM⟩ := h.msg
  have hO := hM.obj
  have hT := pqid_r bp br bm 13 _ [] _ _ s.q _ _ w h.pen (fun k hk => by have := h.ne; subst hk; exact this.1) hO (lt36 _ (by decide)) h.ne.2 h.rd h.ok
  have H := Lib.hid h
  have HM := Lib.hid hM
  clear h hM hO
  go_enter Tryz.func57, Tryz.ntmps57
  go_wp2_with fail
  refine hT.mono ?_
  rintro e w1 ⟨rfl, hp⟩
  clear hT
  go_wp2
  go_end0
  refine ⟨rfl, ?_⟩
  exact H.out.putQ (s' := Fld.rd s .qid) hp (fun _ _ => rfl) rfl rfl rfl rfl (rdQid_ok H.out.ok)
set_option maxHeartbeats 1000000 in
theorem fr_qids (B bp br bm : Nat) (s : Re) (fn fq : Bool) (w : World) (h : ReAt w B bp br bm s fn fq) (hN : Fld.qids = .names → fn = true) (hQ : Fld.qids = .qids → fq = true) :
    Calls Tryz.prog 63 #[.pointer (some ⟨bp, 0, none⟩), .pointer (some ⟨bm, 0, none⟩)] w fun e w' => e = .returned (.tuple #[]) ∧ ReAt w' B bp br bm (Fld.rd s .qids) (Fld.fnN fn .qids) (Fld.fnQ fq .qids) ∧ Mod (RS bp br bm) w w' := by
  obtain ⟨vn, vq, hM⟩ := h.msg
  have hO := hM.obj
  have hT := list_qids_r bp br bm (· = bp) [] s.long s.wrong s.q _ _ w h.pen (fun k hk => by have := h.ne; subst hk; exact this.1) hO (by rw [hM.q0 (hQ rfl)]; rfl) h.ne.2 h.rd h.ok
  have H := Lib.hid h
  have HM := Lib.hid hM
  clear h hM hO
  go_enter Tryz.func63, Tryz.ntmps63
  go_wp2_with fail
  refine hT.mono ?_
  rintro e w1 ⟨rfl, hp⟩
  clear hT
  go_wp2
  go_end0
  refine ⟨rfl, ?_⟩
  obtain ⟨v', h1, h2, h3, h4, h5⟩ := hp
  have hmd : Mod (RS bp br bm) w w1 := h5
  exact ⟨⟨h4, ⟨vn, v', ⟨h1, owns_modR hmd HM.out.names fun k hk x => by { have := (HM.out.names.lt k hk.symm).1; have := H.out.lt; rcases x with (x | x) | x <;> omega }, owns_base h2 H.out.le, HM.out.n0, fun x => (by cases x)⟩⟩, h3, rdQids_ok _ _ _ (Rd.num_ok 2 H.out.ok), H.out.ne, H.out.lt, Nat.le_trans H.out.le hmd.size⟩, hmd⟩
set_option maxHeartbeats 1000000 in
theorem fr_mode (B bp br bm : Nat) (s : Re) (fn fq : Bool) (w : World) (h : ReAt w B bp br bm s fn fq) (hN : Fld.mode = .names → fn = true) (hQ : Fld.mode = .qids → fq = true) :
    Calls Tryz.prog 64 #[.pointer (some ⟨bp, 0, none⟩), .pointer (some ⟨bm, 0, none⟩)] w fun e w' => e = .returned (.tuple #[]) ∧ ReAt w' B bp br bm (Fld.rd s .mode) (Fld.fnN fn .mode) (Fld.fnQ fq .mode) ∧ Mod (RS bp br bm) w w' := by
  obtain ⟨vn, vq, hM⟩ := h.msg
  have hO := hM.obj
  have hT := pu8_r bp br bm 17 _ [] _ _ s.q _ _ w h.pen hO (lt36 _ (by decide)) h.ne.2 h.rd h.ok.1 h.ok.2
  have H := Lib.hid h
  have HM := Lib.hid hM
  clear h hM hO
  go_enter Tryz.func64, Tryz.ntmps64
  go_wp2_with fail
  refine hT.mono ?_
  rintro e w1 ⟨rfl, hp⟩
  clear hT
  go_wp2
  go_end0
  refine ⟨rfl, ?_⟩
  exact H.out.put1 (s' := Fld.rd s .mode) hp (fun _ _ => rfl) rfl rfl rfl rfl (Rd.num_ok 1 H.out.ok)
set_option maxHeartbeats 1000000 in
theorem fr_perm (B bp br bm : Nat) (s : Re) (fn fq : Bool) (w : World) (h : ReAt w B bp br bm s fn fq) (hN : Fld.perm = .names → fn = true) (hQ : Fld.perm = .qids → fq = true) :
    Calls Tryz.prog 67 #[.pointer (some ⟨bp, 0, none⟩), .pointer (some ⟨bm, 0, none⟩)] w fun e w' => e = .returned (.tuple #[]) ∧ ReAt w' B bp br bm (Fld.rd s .perm) (Fld.fnN fn .perm) (Fld.fnQ fq .perm) ∧ Mod (RS bp br bm) w w' := by
  obtain ⟨vn, vq, hM⟩ := h.msg
  have hO := hM.obj
  have hT := pu32_r bp br bm 18 _ [] _ _ s.q _ _ w h.pen hO (lt36 _ (by decide)) h.ne.2 h.rd h.ok.1 h.ok.2
  have H := Lib.hid h
  have HM := Lib.hid hM
  clear h hM hO
  go_enter Tryz.func67, Tryz.ntmps67
  go_wp2_with fail
  refine hT.mono ?_
  rintro e w1 ⟨rfl, hp⟩
  clear hT
  go_wp2
  go_end0
  refine ⟨rfl, ?_⟩
  exact H.out.put1 (s' := Fld.rd s .perm) hp (fun _ _ => rfl) rfl rfl rfl rfl (Rd.num_ok 4 H.out.ok)
set_option maxHeartbeats 1000000 in
theorem fr_iounit (B bp br bm : Nat) (s : Re) (fn fq : Bool) (w : World) (h : ReAt w B bp br bm s fn fq) (hN : Fld.iounit = .names → fn = true) (hQ : Fld.iounit = .qids → fq = true) :
    Calls Tryz.prog 65 #[.pointer (some ⟨bp, 0, none⟩), .pointer (some ⟨bm, 0, none⟩)] w fun e w' => e = .returned (.tuple #[]) ∧ ReAt w' B bp br bm (Fld.rd s .iounit) (Fld.fnN fn .iounit) (Fld.fnQ fq .iounit) ∧ Mod (RS bp br bm) w w' := by
  obtain ⟨vn, vq, hM⟩ := h.msg
  have hO := hM.obj
  have hT := pu32_r bp br bm 19 _ [] _ _ s.q _ _ w h.pen hO (lt36 _ (by decide)) h.ne.2 h.rd h.ok.1 h.ok.2
  have H := Lib.hid h
  have HM := Lib.hid hM
  clear h hM hO
  go_enter Tryz.func65, Tryz.ntmps65
  go_wp2_with fail
  refine hT.mono ?_
  rintro e w1 ⟨rfl, hp⟩
  clear hT
  go_wp2
  go_end0
  refine ⟨rfl, ?_⟩
  exact H.out.put1 (s' := Fld.rd s .iounit) hp (fun _ _ => rfl) rfl rfl rfl rfl (Rd.num_ok 4 H.out.ok)
set_option maxHeartbeats 1000000 in
theorem fr_offset (B bp br bm : Nat) (s : Re) (fn fq : Bool) (w : World) (h : ReAt w B bp br bm s fn fq) (hN : Fld.offset = .names → fn = true) (hQ : Fld.offset = .qids → fq = true) :
    Calls Tryz.prog 68 #[.pointer (some ⟨bp, 0, none⟩), .pointer (some ⟨bm, 0, none⟩)] w fun e w' => e = .returned (.tuple #[]) ∧ ReAt w' B bp br bm (Fld.rd s .offset) (Fld.fnN fn .offset) (Fld.fnQ fq .offset) ∧ Mod (RS bp br bm) w w' := by
  obtain ⟨vn, vq, hM⟩ := h.msg
  have hO := hM.obj
  have hT := pu64_r bp br bm 20 _ [] _ _ s.q _ _ w h.pen hO (lt36 _ (by decide)) h.ne.2 h.rd h.ok.1 h.ok.2
  have H := Lib.hid h
  have HM := Lib.hid hM
  clear h hM hO
  go_enter Tryz.func68, Tryz.ntmps68
  go_wp2_with fail
  refine hT.mono ?_
  rintro e w1 ⟨rfl, hp⟩
  clear hT
  go_wp2
  go_end0
  refine ⟨rfl, ?_⟩
  exact H.out.put1 (s' := Fld.rd s .offset) hp (fun _ _ => rfl) rfl rfl rfl rfl (Rd.num_ok 8 H.out.ok)
set_option maxHeartbeats 1000000 in
theorem fr_count (B bp br bm : Nat) (s : Re) (fn fq : Bool) (w : World) (h : ReAt w B bp br bm s fn fq) (hN : Fld.count = .names → fn = true) (hQ : Fld.count = .qids → fq = true) :
    Calls Tryz.prog 69 #[.pointer (some ⟨bp, 0, none⟩), .pointer (some ⟨bm, 0, none⟩)] w fun e w' => e = .returned (.tuple #[]) ∧ ReAt w' B bp br bm (Fld.rd s .count) (Fld.fnN fn .count) (Fld.fnQ fq .count) ∧ Mod (RS bp br bm) w w' := by
  obtain ⟨vn, vq, hM⟩ := h.msg
  have hO := hM.obj
  have hT := pu32_r bp br bm 21 _ [] _ _ s.q _ _ w h.pen hO (lt36 _ (by decide)) h.ne.2 h.rd h.ok.1 h.ok.2
  have H := Lib.hid h
  have HM := Lib.hid hM
  clear h hM hO
  go_enter Tryz.func69, Tryz.ntmps69
  go_wp2_with fail
  refine hT.mono ?_
  rintro e w1 ⟨rfl, hp⟩
  clear hT
  go_wp2
  go_end0
  refine ⟨rfl, ?_⟩
  exact H.out.put1 (s' := Fld.rd s .count) hp (fun _ _ => rfl) rfl rfl rfl rfl (Rd.num_ok 4 H.out.ok)
set_option maxHeartbeats 1000000 in
theorem fr_data (B bp br bm : Nat) (s : Re) (fn fq : Bool) (w : World) (h : ReAt w B bp br bm s fn fq) (hN : Fld.data = .names → fn = true) (hQ : Fld.data = .qids → fq = true) :
    Calls Tryz.prog 70 #[.pointer (some ⟨bp, 0, none⟩), .pointer (some ⟨bm, 0, none⟩)] w fun e w' => e = .returned (.tuple #[]) ∧ ReAt w' B bp br bm (Fld.rd s .data) (Fld.fnN fn .data) (Fld.fnQ fq .data) ∧ Mod (RS bp br bm) w w' := by
  obtain ⟨vn, vq, hM⟩ := h.msg
  have hO := hM.obj
  have hT := pdata_r bp br bm 22 _ [] _ _ s.q _ _ w h.pen h.ne.1.1 hO (lt36 _ (by decide)) h.ne.2 h.rd h.ok.1 h.ok.2
  have H := Lib.hid h
  have HM := Lib.hid hM
  clear h hM hO
  go_enter Tryz.func70, Tryz.ntmps70
  go_wp2_with fail
  refine hT.mono ?_
  rintro e w1 ⟨rfl, hp⟩
  clear hT
  go_wp2
  go_end0
  refine ⟨rfl, ?_⟩
  exact H.out.put1 (s' := Fld.rd s .data) hp (fun _ _ => rfl) rfl rfl rfl rfl (rdData_ok H.out.ok)
set_option maxHeartbeats 1000000 in
theorem fr_stat (B bp br bm : Nat) (s : Re) (fn fq : Bool) (w : World) (h : ReAt w B bp br bm s fn fq) (hN : Fld.stat = .names → fn = true) (hQ : Fld.stat = .qids → fq = true) :
    Calls Tryz.prog 71 #[.pointer (some ⟨bp, 0, none⟩), .pointer (some ⟨bm, 0, none⟩)] w fun e w' => e = .returned (.tuple #[]) ∧ ReAt w' B bp br bm (Fld.rd s .stat) (Fld.fnN fn .stat) (Fld.fnQ fq .stat) ∧ Mod (RS bp br bm) w w' := by
  obtain ⟨vn, vq, hM⟩ := h.msg
  have hO := hM.obj
  have hT := pstat_r bp br bm 23 _ [] _ _ s.q _ _ w h.pen (fun k hk => by have := h.ne; subst hk; exact this.1) hO (le36 _ (by decide)) h.ne.2 h.rd h.ok
  have H := Lib.hid h
  have HM := Lib.hid hM
  clear h hM hO
  go_enter Tryz.func71, Tryz.ntmps71
  go_wp2_with fail
  refine hT.mono ?_
  rintro e w1 ⟨rfl, hp⟩
  clear hT
  go_wp2
  go_end0
  refine ⟨rfl, ?_⟩
  have hmd : Mod (RS bp br bm) w w1 := hp.md
  exact ⟨⟨hp.pen, ⟨vn, vq, HM.out.rows (m' := (Fld.rd s .stat).m) hmd H.out.lt (hp.obj _ _ HM.out.obj) rfl rfl⟩, hp.rd, rdStatB_ok H.out.ok, H.out.ne, H.out.lt, Nat.le_trans H.out.le hmd.size⟩, hmd⟩
theorem fld_r (f : Fld) (B bp br bm : Nat) (s : Re) (fn fq : Bool) (w : World) (h : ReAt w B bp br bm s fn fq) (hN : f = .names → fn = true) (hQ : f = .qids → fq = true) :
    Calls Tryz.prog (fnOf f) #[.pointer (some ⟨bp, 0, none⟩), .pointer (some ⟨bm, 0, none⟩)] w fun e w' => e = .returned (.tuple #[]) ∧ ReAt w' B bp br bm (Fld.rd s f) (Fld.fnN fn f) (Fld.fnQ fq f) ∧ Mod (RS bp br bm) w w' := by
  cases f
  · exact fr_msize B bp br bm s fn fq w h hN hQ
  · exact fr_version B bp br bm s fn fq w h hN hQ
  · exact fr_fid B bp br bm s fn fq w h hN hQ
  · exact fr_afid B bp br bm s fn fq w h hN hQ
  · exact fr_newfid B bp br bm s fn fq w h hN hQ
  · exact fr_oldtag B bp br bm s fn fq w h hN hQ
  · exact fr_uname B bp br bm s fn fq w h hN hQ
  · exact fr_aname B bp br bm s fn fq w h hN hQ
  · exact fr_ename B bp br bm s fn fq w h hN hQ
  · exact fr_name B bp br bm s fn fq w h hN hQ
  · exact fr_names B bp br bm s fn fq w h hN hQ
  · exact fr_qid B bp br bm s fn fq w h hN hQ
  · exact fr_qids B bp br bm s fn fq w h hN hQ
  · exact fr_mode B bp br bm s fn fq w h hN hQ
  · exact fr_perm B bp br bm s fn fq w h hN hQ
  · exact fr_iounit B bp br bm s fn fq w h hN hQ
  · exact fr_offset B bp br bm s fn fq w h hN hQ
  · exact fr_count B bp br bm s fn fq w h hN hQ
  · exact fr_data B bp br bm s fn fq w h hN hQ
  · exact fr_stat B bp br bm s fn fq w h hN hQ
end Go.Proofs.YtklpopmjpgdjnaaGreatDoor
