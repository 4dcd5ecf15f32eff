/- Messages of one shape, plain. -/
import Derived.Test.YtklpopmjpgdjnaaGreatDoorQGg
import Derived.Lib.ValidLaws
import Derived.Lib.Repeat
set_option linter.unusedVariables false
set_option linter.unusedSimpArgs false
namespace Go.Proofs.YtklpopmjpgdjnaaGreatDoor

/-- a text of one letter -/
def rep (c : UInt8) (n : Nat) : ByteArray := bs (List.replicate n c)
theorem rep_size (c : UInt8) (n : Nat) : (rep c n).size = n := by unfold rep; rw [bs_size, List.length_replicate]
theorem rep_data (c : UInt8) (n : Nat) : (rep c n).data.toList = List.replicate n c := by simp [rep, bs]
theorem validD_rep (c : UInt8) (h : c.toNat < 128) (n : Nat) : Lib.validD (List.replicate n c) = true := by
  induction n with
  | zero => rfl
  | succ n ih => rw [List.replicate_succ, Lib.validD_cons _ _ h]; exact ih
theorem indexByte_rep (c : UInt8) (h : c ≠ 0) (n : Nat) : Lib.indexByte (List.replicate n c) 0 = -1 := by
  induction n with
  | zero => rfl
  | succ n ih =>
    rw [List.replicate_succ]
    show (if c == 0 then (0 : Int) else if Lib.indexByte (List.replicate n c) 0 == -1 then -1 else _) = -1
    rw [if_neg (by simpa using h), ih]
    rfl
theorem okT_rep (c : UInt8) (h0 : c ≠ 0) (h : c.toNat < 128) (n : Nat) : okT (rep c n) = true := by
  unfold okT hasZ
  rw [rep_data, validD_rep c h, indexByte_rep c h0]
  rfl
/-- messages alike but for texts and data of one length -/
structure SzEq (m x : Msg) : Prop where
  ty : x.ty = m.ty
  tag : x.tag = m.tag
  msize : x.msize = m.msize
  fid : x.fid = m.fid
  afid : x.afid = m.afid
  newfid : x.newfid = m.newfid
  oldtag : x.oldtag = m.oldtag
  qid : x.qid = m.qid
  qids : x.qids = m.qids
  mode : x.mode = m.mode
  perm : x.perm = m.perm
  iounit : x.iounit = m.iounit
  offset : x.offset = m.offset
  count : x.count = m.count
  version : x.version.size = m.version.size
  uname : x.uname.size = m.uname.size
  aname : x.aname.size = m.aname.size
  ename : x.ename.size = m.ename.size
  name : x.name.size = m.name.size
  data : x.data.size = m.data.size
  names : x.names.map (·.size) = m.names.map (·.size)
  st : x.stat.ty = m.stat.ty ∧ x.stat.dev = m.stat.dev ∧ x.stat.qt = m.stat.qt ∧ x.stat.qv = m.stat.qv ∧ x.stat.qp = m.stat.qp ∧ x.stat.mo = m.stat.mo ∧ x.stat.at_ = m.stat.at_ ∧ x.stat.mt = m.stat.mt ∧ x.stat.len = m.stat.len
  sts : x.stat.n.size = m.stat.n.size ∧ x.stat.u.size = m.stat.u.size ∧ x.stat.g.size = m.stat.g.size ∧ x.stat.m.size = m.stat.m.size
theorem SzEq.clear {m x : Msg} (h : SzEq m x) (f : Fld) : SzEq (Fld.clear m f) (Fld.clear x f) := by
  obtain ⟨h0, h1, h2, h3, h4, h5, h6, h7, h8, h9, h10, h11, h12, h13, h14, h15, h16, h17, h18, h19, h20, h21, h22⟩ := h
  cases f
  case stat => exact ⟨h0, h1, h2, h3, h4, h5, h6, h7, h8, h9, h10, h11, h12, h13, h14, h15, h16, h17, h18, h19, h20, ⟨rfl, rfl, rfl, rfl, rfl, rfl, rfl, rfl, rfl⟩, ⟨rfl, rfl, rfl, rfl⟩⟩
  all_goals refine ⟨?_, ?_, ?_, ?_, ?_, ?_, ?_, ?_, ?_, ?_, ?_, ?_, ?_, ?_, ?_, ?_, ?_, ?_, ?_, ?_, ?_, h21, h22⟩
  all_goals first
    | assumption
    | rfl
theorem SzEq.clears {m x : Msg} (h : SzEq m x) (l : List Fld) : SzEq (l.foldl Fld.clear m) (l.foldl Fld.clear x) := by
  induction l generalizing m x with
  | nil => exact h
  | cons f l ih => exact ih (h.clear f)
theorem SzEq.bare {t g : Nat} {x : Msg} (h : SzEq (Msg.bare t g) x) : x = Msg.bare t g := by
  obtain ⟨h0, h1, h2, h3, h4, h5, h6, h7, h8, h9, h10, h11, h12, h13, h14, h15, h16, h17, h18, h19, h20, ⟨a0, a1, a2, a3, a4, a5, a6, a7, a8⟩, ⟨b0, b1, b2, b3⟩⟩ := h
  obtain ⟨ty, tag, msize, version, fid, afid, newfid, oldtag, uname, aname, ename, name, names, qid, qids, mode, perm, iounit, offset, count, data, ⟨sty, dev, qt, qv, qp, mo, at_, mt, len, sn, su, sg, sm⟩⟩ := x
  have hn : names = [] := by
    have := congrArg List.length h20
    simp only [List.length_map] at this
    exact List.eq_nil_of_length_eq_zero this
  have e14 := empty_size h14
  have e15 := empty_size h15
  have e16 := empty_size h16
  have e17 := empty_size h17
  have e18 := empty_size h18
  have e19 := empty_size h19
  have f0 := empty_size b0
  have f1 := empty_size b1
  have f2 := empty_size b2
  have f3 := empty_size b3
  simp only at *
  subst h0 h1 h2 h3 h4 h5 h6 h7 h8 h9 h10 h11 h12 h13 e14 e15 e16 e17 e18 e19 hn a0 a1 a2 a3 a4 a5 a6 a7 a8 f0 f1 f2 f3
  rfl
theorem SzEq.empty {m x : Msg} (h : SzEq m x) (he : emptyM m = true) : emptyM x = true := by
  rw [emptyM_bare he] at h
  rw [h.bare]
  exact bare_emptyM _ _
theorem SzEq.tot {m x : Msg} (h : SzEq m x) : x.stat.tot = m.stat.tot := by
  obtain ⟨a, b, c, d⟩ := h.sts
  unfold St.tot
  omega
theorem encS_size (s : St) : (encS s).1.size = (if 65535 < s.tot then 0 else 2 + s.tot) ∧ ((encS s).2 = 0 ↔ ¬ 65535 < s.tot) := by
  unfold encS
  split
  · exact ⟨rfl, ⟨fun e => (by cases e), fun e => absurd ‹_› e⟩⟩
  · refine ⟨?_, ⟨fun _ => ‹_›, fun _ => rfl⟩⟩
    show (bs _).size = _
    rw [bs_size, List.length_append, leBytes_length, St.body_length]
theorem SzEq.encS {m x : Msg} (h : SzEq m x) : (encS x.stat).1.size = (Go.Proofs.YtklpopmjpgdjnaaGreatDoor.encS m.stat).1.size ∧ ((Go.Proofs.YtklpopmjpgdjnaaGreatDoor.encS x.stat).2 = 0 ↔ (Go.Proofs.YtklpopmjpgdjnaaGreatDoor.encS m.stat).2 = 0) := by
  obtain ⟨a1, a2⟩ := encS_size x.stat
  obtain ⟨b1, b2⟩ := encS_size m.stat
  rw [a1, b1, a2, b2, h.tot]
  exact ⟨rfl, Iff.rfl⟩
theorem txts_len : ∀ {a b : List ByteArray}, a.map (·.size) = b.map (·.size) → (a.flatMap txt).length = (b.flatMap txt).length ∧ a.length = b.length ∧ ((∀ s ∈ a, s.size ≤ 65535) ↔ (∀ s ∈ b, s.size ≤ 65535))
  | [], [], _ => ⟨rfl, rfl, Iff.rfl⟩
  | [], _ :: _, h => by simp at h
  | _ :: _, [], h => by simp at h
  | x :: a, y :: b, h => by
    simp only [List.map_cons, List.cons.injEq] at h
    obtain ⟨h1, h2, h3⟩ := txts_len h.2
    refine ⟨?_, by simp [h2], ?_⟩
    · rw [List.flatMap_cons, List.flatMap_cons, List.length_append, List.length_append, h1, txt_length, txt_length, h.1]
    · rw [List.forall_mem_cons, List.forall_mem_cons, h3, h.1]
theorem SzEq.fld {m x : Msg} (h : SzEq m x) (f : Fld) : (fldB x f).length = (fldB m f).length ∧ (fldOk x f ↔ fldOk m f) := by
  cases f
  case version => exact ⟨by show (txt _).length = (txt _).length; rw [txt_length, txt_length, h.version], by show _ ≤ _ ↔ _ ≤ _; rw [h.version]⟩
  case uname => exact ⟨by show (txt _).length = (txt _).length; rw [txt_length, txt_length, h.uname], by show _ ≤ _ ↔ _ ≤ _; rw [h.uname]⟩
  case aname => exact ⟨by show (txt _).length = (txt _).length; rw [txt_length, txt_length, h.aname], by show _ ≤ _ ↔ _ ≤ _; rw [h.aname]⟩
  case ename => exact ⟨by show (txt _).length = (txt _).length; rw [txt_length, txt_length, h.ename], by show _ ≤ _ ↔ _ ≤ _; rw [h.ename]⟩
  case name => exact ⟨by show (txt _).length = (txt _).length; rw [txt_length, txt_length, h.name], by show _ ≤ _ ↔ _ ≤ _; rw [h.name]⟩
  case names =>
    obtain ⟨a, b, c⟩ := txts_len h.names
    refine ⟨?_, ?_⟩
    · show (leBytes 2 _ ++ _).length = (leBytes 2 _ ++ _).length
      rw [List.length_append, List.length_append, leBytes_length, leBytes_length, a]
    · show _ ≤ 16 ∧ _ ↔ _ ≤ 16 ∧ _
      rw [b, c]
  case qids => exact ⟨by show (leBytes 2 x.qids.length ++ x.qids.flatMap qdB).length = _; rw [h.qids]; rfl, by show x.qids.length ≤ 16 ↔ _; rw [h.qids]; exact Iff.rfl⟩
  case stat =>
    obtain ⟨a, b⟩ := h.encS
    refine ⟨?_, ?_⟩
    · show (leBytes 2 _ ++ _).length = (leBytes 2 _ ++ _).length
      rw [List.length_append, List.length_append, leBytes_length, leBytes_length, bsize, bsize, a]
    · show _ ∧ _ ↔ _ ∧ _
      rw [a, b]
  case qid => exact ⟨by show (qdB x.qid).length = _; rw [h.qid]; rfl, Iff.rfl⟩
  case data =>
    refine ⟨?_, Iff.rfl⟩
    show (leBytes 4 _ ++ _).length = (leBytes 4 _ ++ _).length
    rw [List.length_append, List.length_append, leBytes_length, leBytes_length, bsize, bsize, h.data]
  all_goals exact ⟨by show (leBytes _ _).length = (leBytes _ _).length; rw [leBytes_length, leBytes_length], Iff.rfl⟩
theorem SzEq.flds {m x : Msg} (h : SzEq m x) (l : List Fld) : (l.flatMap (fldB x)).length = (l.flatMap (fldB m)).length := by
  induction l with
  | nil => rfl
  | cons f l ih => rw [List.flatMap_cons, List.flatMap_cons, List.length_append, List.length_append, ih, (h.fld f).1]
/-- messages of one shape are written as long -/
theorem SzEq.enc {m x : Msg} (h : SzEq m x) (he : (encM m).2 = 0) (hp : plainM x = true) : (encM x).2 = 0 ∧ (encM x).1.size = (encM m).1.size := by
  obtain ⟨l, hf, hm, _, hok, hlen, hE⟩ := encM_ok he
  have hX := encM_is (m := x) (l := l) (by rw [h.ty]; exact hf) ((h.clears l).empty hm) hp ⟨fun f hf => (h.fld f).2.2 (hok f hf), by rw [h.flds]; exact hlen⟩
  rw [hX, hE]
  refine ⟨rfl, ?_⟩
  show (bs _).size = (bs _).size
  rw [bs_size, bs_size]
  simp only [List.length_append, leBytes_length, h.flds]
/-- a message's shape -/
def shapeM (m : Msg) : Msg :=
  { m with version := rep 120 m.version.size, uname := rep 120 m.uname.size, aname := rep 120 m.aname.size, ename := rep 120 m.ename.size, name := rep 120 m.name.size, data := rep 0 m.data.size, names := m.names.map fun s => rep 120 s.size,
           stat := { m.stat with n := rep 120 m.stat.n.size, u := rep 120 m.stat.u.size, g := rep 120 m.stat.g.size, m := rep 120 m.stat.m.size } }
theorem shapeM_sz (m : Msg) : SzEq m (shapeM m) :=
  ⟨rfl, rfl, rfl, rfl, rfl, rfl, rfl, rfl, rfl, rfl, rfl, rfl, rfl, rfl, rep_size _ _, rep_size _ _, rep_size _ _, rep_size _ _, rep_size _ _, rep_size _ _,
   by show (m.names.map _).map _ = _; rw [List.map_map]; exact List.map_congr_left fun s _ => rep_size _ _, ⟨rfl, rfl, rfl, rfl, rfl, rfl, rfl, rfl, rfl⟩, ⟨rep_size _ _, rep_size _ _, rep_size _ _, rep_size _ _⟩⟩
theorem shapeM_plain (m : Msg) : plainM (shapeM m) = true := by
  have h : ∀ n, okT (rep 120 n) = true := okT_rep 120 (by decide) (by decide)
  unfold plainM
  rw [Bool.and_eq_true]
  constructor
  · rw [List.all_eq_true]
    intro s hs
    simp only [Msg.nine, List.mem_cons, List.not_mem_nil, or_false] at hs
    rcases hs with rfl | rfl | rfl | rfl | rfl | rfl | rfl | rfl | rfl <;> exact h _
  · rw [List.all_eq_true]
    intro s hs
    obtain ⟨t, _, rfl⟩ := List.mem_map.1 hs
    exact h _
theorem SzEq.shape {m x : Msg} (h : SzEq m x) : shapeM x = shapeM m := by
  obtain ⟨h0, h1, h2, h3, h4, h5, h6, h7, h8, h9, h10, h11, h12, h13, h14, h15, h16, h17, h18, h19, h20, ⟨a0, a1, a2, a3, a4, a5, a6, a7, a8⟩, ⟨b0, b1, b2, b3⟩⟩ := h
  have hn : (x.names.map fun s => rep 120 s.size) = m.names.map fun s => rep 120 s.size := by
    have := congrArg (List.map (rep 120)) h20
    rw [List.map_map, List.map_map] at this
    exact this
  unfold shapeM
  rw [hn, h14, h15, h16, h17, h18, h19, b0, b1, b2, b3]
  obtain ⟨ty, tag, msize, version, fid, afid, newfid, oldtag, uname, aname, ename, name, names, qid, qids, mode, perm, iounit, offset, count, data, ⟨sty, dev, qt, qv, qp, mo, at_, mt, len, sn, su, sg, sm⟩⟩ := x
  simp only at *
  subst h0 h1 h2 h3 h4 h5 h6 h7 h8 h9 h10 h11 h12 h13 a0 a1 a2 a3 a4 a5 a6 a7 a8
  rfl
theorem SzEq.ok {m x : Msg} (h : SzEq m x) (hk : m.Ok) : x.Ok := by
  obtain ⟨k0, k1, k2, k3, k4, k5, k6, k7, k8, k9, k10, k11, k12, k13, ⟨c0, c1, c2, c3, c4, c5, c6, c7, c8⟩⟩ := hk
  obtain ⟨a0, a1, a2, a3, a4, a5, a6, a7, a8⟩ := h.st
  exact ⟨by rw [h.ty]; exact k0, by rw [h.tag]; exact k1, by rw [h.msize]; exact k2, by rw [h.fid]; exact k3, by rw [h.afid]; exact k4, by rw [h.newfid]; exact k5, by rw [h.oldtag]; exact k6, by rw [h.qid]; exact k7, by rw [h.qids]; exact k8,
    by rw [h.mode]; exact k9, by rw [h.perm]; exact k10, by rw [h.iounit]; exact k11, by rw [h.offset]; exact k12, by rw [h.count]; exact k13,
    ⟨by rw [a0]; exact c0, by rw [a1]; exact c1, by rw [a2]; exact c2, by rw [a3]; exact c3, by rw [a4]; exact c4, by rw [a5]; exact c5, by rw [a6]; exact c6, by rw [a7]; exact c7, by rw [a8]; exact c8⟩⟩
theorem SzEq.small {m x : Msg} (h : SzEq m x) (hs : m.Small) : x.Small := by
  obtain ⟨s0, s1, s2, s3, s4, s5, ⟨t0, t1, t2, t3⟩, s7, s8, s9⟩ := hs
  obtain ⟨b0, b1, b2, b3⟩ := h.sts
  have hn := (txts_len h.names).2.1
  refine ⟨by rw [h.version]; exact s0, by rw [h.uname]; exact s1, by rw [h.aname]; exact s2, by rw [h.ename]; exact s3, by rw [h.name]; exact s4, by rw [h.data]; exact s5, ⟨by rw [b0]; exact t0, by rw [b1]; exact t1, by rw [b2]; exact t2, by rw [b3]; exact t3⟩, fun s hs => ?_, by rw [hn]; exact s8, by rw [h.qids]; exact s9⟩
  have : s.size ∈ m.names.map (·.size) := by rw [← h.names]; exact List.mem_map.2 ⟨s, hs, rfl⟩
  obtain ⟨t, ht, he⟩ := List.mem_map.1 this
  rw [← he]
  exact s7 t ht
/-- a message with texts and data turned into others of one length -/
def turnM (m : Msg) (b : UInt8) : Msg := { m with data := rep b m.data.size, ename := rep 101 m.ename.size, uname := rep 117 m.uname.size, name := rep 110 m.name.size, names := m.names.map fun s => rep 119 s.size }
theorem turnM_sz (m : Msg) (b : UInt8) : SzEq m (turnM m b) :=
  ⟨rfl, rfl, rfl, rfl, rfl, rfl, rfl, rfl, rfl, rfl, rfl, rfl, rfl, rfl, rfl, rep_size _ _, rfl, rep_size _ _, rep_size _ _, rep_size _ _,
   by show (m.names.map _).map _ = _; rw [List.map_map]; exact List.map_congr_left fun s _ => rep_size _ _, ⟨rfl, rfl, rfl, rfl, rfl, rfl, rfl, rfl, rfl⟩, ⟨rfl, rfl, rfl, rfl⟩⟩
theorem turnM_plain {m : Msg} (b : UInt8) (h : plainM m = true) : plainM (turnM m b) = true := by
  unfold plainM at h ⊢
  rw [Bool.and_eq_true, List.all_eq_true] at h
  rw [Bool.and_eq_true]
  constructor
  · rw [List.all_eq_true]
    intro s hs
    simp only [Msg.nine, List.mem_cons, List.not_mem_nil, or_false] at hs
    have h1 := h.1
    rcases hs with rfl | rfl | rfl | rfl | rfl | rfl | rfl | rfl | rfl
    · exact h1 _ (by simp [Msg.nine, turnM])
    · exact okT_rep 117 (by decide) (by decide) _
    · exact h1 _ (by simp [Msg.nine, turnM])
    · exact okT_rep 101 (by decide) (by decide) _
    · exact okT_rep 110 (by decide) (by decide) _
    · exact h1 _ (by simp [Msg.nine, turnM])
    · exact h1 _ (by simp [Msg.nine, turnM])
    · exact h1 _ (by simp [Msg.nine, turnM])
    · exact h1 _ (by simp [Msg.nine, turnM])
  · rw [List.all_eq_true]
    intro s hs
    obtain ⟨t, _, rfl⟩ := List.mem_map.1 hs
    exact okT_rep 119 (by decide) (by decide) _
end Go.Proofs.YtklpopmjpgdjnaaGreatDoor
