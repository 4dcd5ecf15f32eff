/- What is written is read, and what is read is written, plain. -/
import Derived.Test.YtjhhknmdnkkknaaPStatNx
import Derived.Test.YtjhhknmdnkkknaaPWin
namespace Go.Proofs.Ytjhhknmdnkkknaa

/-- a reader of bytes, split at its place -/
def AtSplit (q : Rd) (rest : List UInt8) : Prop := q.f = 0 ∧ q.at_ ≤ q.s.size ∧ q.s.data.toList.drop q.at_ = rest
theorem bsize (b : ByteArray) : b.data.toList.length = b.size := Array.length_toList
theorem extract_take (b : ByteArray) (i k : Nat) : (b.extract i (i + k)).data.toList = (b.data.toList.drop i).take k := by
  rw [ByteArray.data_extract, Array.toList_extract, List.extract_eq_take_drop]
  congr 1
  omega
theorem AtSplit.size {q : Rd} {rest : List UInt8} (h : AtSplit q rest) : q.at_ + rest.length = q.s.size := by
  obtain ⟨_, h2, h3⟩ := h
  have := congrArg List.length h3
  rw [List.length_drop, bsize] at this
  omega
theorem AtSplit.bytes {q : Rd} {l rest : List UInt8} (h : AtSplit q (l ++ rest)) : q.bytes l.length = (bs l, ⟨q.s, q.at_ + l.length, 0⟩) ∧ AtSplit ⟨q.s, q.at_ + l.length, 0⟩ rest := by
  have hs := h.size
  obtain ⟨h1, h2, h3⟩ := h
  rw [List.length_append] at hs
  constructor
  · rw [Rd.bytes_in h1 (by omega)]
    congr 1
    apply ByteArray.ext
    apply Array.toList_inj.1
    rw [extract_take, h3, List.take_left']
    · simp [bs]
    · rfl
  · refine ⟨rfl, by show q.at_ + l.length ≤ q.s.size; omega, ?_⟩
    show q.s.data.toList.drop (q.at_ + l.length) = rest
    rw [← List.drop_drop, h3, List.drop_left']
    rfl
theorem AtSplit.num {q : Rd} {k x : Nat} {rest : List UInt8} (hx : x < 2 ^ (8 * k)) (h : AtSplit q (leBytes k x ++ rest)) : q.num k = (x, ⟨q.s, q.at_ + k, 0⟩) ∧ AtSplit ⟨q.s, q.at_ + k, 0⟩ rest := by
  have h' := h.bytes
  rw [leBytes_length] at h'
  refine ⟨?_, h'.2⟩
  unfold Rd.num
  rw [h'.1]
  congr 1
  show leNat (bs (leBytes k x)).data.toList = x
  rw [show (bs (leBytes k x)).data.toList = leBytes k x from by simp [bs], leNat_leBytes, Nat.mod_eq_of_lt hx]
theorem AtSplit.text {q : Rd} {t : ByteArray} {rest : List UInt8} (ht : t.size < 65536) (h : AtSplit q (txt t ++ rest)) : q.text = (t, ⟨q.s, q.at_ + (2 + t.size), 0⟩) ∧ AtSplit ⟨q.s, q.at_ + (2 + t.size), 0⟩ rest := by
  unfold txt at h
  rw [List.append_assoc] at h
  obtain ⟨h1, h2⟩ := h.num (by exact ht)
  obtain ⟨h3, h4⟩ := h2.bytes
  rw [bsize] at h3 h4
  rw [Nat.add_assoc] at h4
  refine ⟨?_, h4⟩
  unfold Rd.text
  rw [h1]
  simp only
  rw [h3]
  simp only [Rd.keep]
  rw [Nat.add_assoc, bs_of]
  rfl
theorem read_body (s : St) (B : ByteArray) (hB : B.data.toList = s.body) (hk : s.Ok) (hn : s.n.size < 65536) (hu : s.u.size < 65536) (hg : s.g.size < 65536) (hm : s.m.size < 65536) :
    St.read ⟨B, 0, 0⟩ = s ∧ ((St.nq ⟨B, 0, 0⟩).tq 4).end_ = 0 := by
  have h0 : AtSplit ⟨B, 0, 0⟩ s.body := ⟨rfl, Nat.zero_le _, by show List.drop 0 B.data.toList = _; rw [List.drop_zero]; exact hB⟩
  unfold St.body St.nums qidL at h0
  simp only [List.append_assoc] at h0
  obtain ⟨e1, h1⟩ := h0.num hk.ty
  obtain ⟨e2, h2⟩ := h1.num hk.dev
  obtain ⟨e3, h3⟩ := h2.num hk.qt
  obtain ⟨e4, h4⟩ := h3.num hk.qv
  obtain ⟨e5, h5⟩ := h4.num hk.qp
  obtain ⟨e6, h6⟩ := h5.num hk.mo
  obtain ⟨e7, h7⟩ := h6.num hk.at_
  obtain ⟨e8, h8⟩ := h7.num hk.mt
  obtain ⟨e9, h9⟩ := h8.num hk.len
  obtain ⟨e10, h10⟩ := h9.text hn
  obtain ⟨e11, h11⟩ := h10.text hu
  obtain ⟨e12, h12⟩ := h11.text hg
  obtain ⟨e13, h13⟩ := (show AtSplit _ (txt s.m ++ []) from by rw [List.append_nil]; exact h12).text hm
  have hend := h13.size
  simp only [List.length_nil, Nat.add_zero] at hend
  constructor
  · simp only [St.read, e1, e2, e3, e4, e5, e6, e7, e8, e9, Rd.tq, e10, e11, e12, e13]
  · simp only [St.nq, e1, e2, e3, e4, e5, e6, e7, e8, e9, Rd.tq, e10, e11, e12, e13]
    unfold Rd.end_
    rw [if_neg (by simp), if_neg (by show ¬ _ < _; simp only; omega)]
theorem encS_ok {s : St} (h : (encS s).2 = 0) : ¬ 65535 < s.tot ∧ encB s = bs (leBytes 2 s.tot ++ s.body) := by
  unfold encB
  unfold encS at *
  split at h
  · exact absurd h (by decide)
  · rename_i g
    rw [if_neg g]
    exact ⟨g, rfl⟩
theorem next_enc (s : St) (hk : s.Ok) (h : (encS s).2 = 0) (b : ByteArray) : nextS (encB s ++ b) = (s, (encB s).size, 0) := by
  obtain ⟨ht, he⟩ := encS_ok h
  have hsz := (encB_size h).2.2
  have htot : s.tot = 47 + s.n.size + s.u.size + s.g.size + s.m.size := rfl
  have h0 : AtSplit ⟨encB s ++ b, 0, 0⟩ (leBytes 2 s.tot ++ (s.body ++ b.data.toList)) := ⟨rfl, Nat.zero_le _, by
    show List.drop 0 (encB s ++ b).data.toList = _
    rw [List.drop_zero, he]; simp [bs]⟩
  obtain ⟨e1, h1⟩ := h0.num (by show s.tot < 65536; omega)
  obtain ⟨e2, h2⟩ := h1.bytes
  rw [St.body_length] at e2
  have hr := read_body s (bs s.body) (by simp [bs]) hk (by omega) (by omega) (by omega) (by omega)
  unfold nextS
  rw [e1]
  simp only
  rw [e2]
  simp only
  rw [if_neg (by simp), hr.2, if_neg (by simp), hr.1, hsz]
  first | done | simp
theorem dec_enc (s : St) (hk : s.Ok) (h : (encS s).2 = 0) : decS (encB s) = (s, 0) := by
  have := next_enc s hk h ByteArray.empty
  rw [ByteArray.append_empty] at this
  unfold decS
  rw [this]
  simp
theorem leBytes_leNat (l : List UInt8) : leBytes l.length (leNat l) = l := by
  induction l with
  | nil => rfl
  | cons c l ih =>
    simp only [leNat, List.length_cons, leBytes]
    have hc := c.toNat_lt
    have e1 : (c.toNat + 256 * leNat l) / 256 = leNat l := by omega
    rw [e1, ih]
    congr 1
    apply UInt8.toNat_inj.1
    rw [UInt8.toNat_ofNat']
    omega
theorem AtSplit.unbytes {q : Rd} {k : Nat} {rest : List UInt8} (h : AtSplit q rest) (hf : (q.bytes k).2.f = 0) : ∃ rest', rest = (q.bytes k).1.data.toList ++ rest' ∧ (q.bytes k).1.size = k ∧ AtSplit (q.bytes k).2 rest' := by
  obtain ⟨h1, h2, h3⟩ := Rd.bytes_adv hf
  have hs := h.size
  refine ⟨rest.drop k, ?_, ?_, ?_⟩
  · rw [Rd.bytes_in h1 h2]
    show rest = (q.s.extract q.at_ (q.at_ + k)).data.toList ++ _
    rw [extract_take, h.2.2, List.take_append_drop]
  · rw [Rd.bytes_in h1 h2]
    show (q.s.extract q.at_ (q.at_ + k)).size = k
    rw [ByteArray.size_extract]
    omega
  · rw [Rd.bytes_in h1 h2]
    refine ⟨rfl, h2, ?_⟩
    show q.s.data.toList.drop (q.at_ + k) = _
    rw [← List.drop_drop, h.2.2]
theorem AtSplit.unnum {q : Rd} {k : Nat} {rest : List UInt8} (h : AtSplit q rest) (hf : (q.num k).2.f = 0) : ∃ rest', rest = leBytes k (q.num k).1 ++ rest' ∧ AtSplit (q.num k).2 rest' := by
  obtain ⟨r, h1, h2, h3⟩ := h.unbytes hf
  refine ⟨r, ?_, h3⟩
  rw [h1]
  congr 1
  show _ = leBytes k (leNat (q.bytes k).1.data.toList)
  have := leBytes_leNat (q.bytes k).1.data.toList
  rw [bsize, h2] at this
  exact this.symm
theorem AtSplit.untext {q : Rd} {rest : List UInt8} (h : AtSplit q rest) (hf : q.text.2.f = 0) : ∃ rest', rest = txt q.text.1 ++ rest' ∧ q.text.1.size < 65536 ∧ AtSplit q.text.2 rest' := by
  have hf' := hf
  unfold Rd.text at hf'
  simp only [Rd.keep_f] at hf'
  have hb := Rd.bytes_adv hf'
  obtain ⟨r1, h1, h2⟩ := h.unnum hb.1
  obtain ⟨r2, h3, h4, h5⟩ := h2.unbytes hf'
  have hlt := Rd.num_lt q 2
  have hkeep : ((q.num 2).2.bytes (q.num 2).1).2.keep q.at_ = ((q.num 2).2.bytes (q.num 2).1).2 := if_neg (by omega)
  have ht : q.text = (((q.num 2).2.bytes (q.num 2).1).1, ((q.num 2).2.bytes (q.num 2).1).2) := by unfold Rd.text; rw [hkeep]
  rw [ht]
  refine ⟨r2, ?_, by rw [h4]; exact hlt, h5⟩
  rw [h1, h3]
  unfold txt
  rw [h4, List.append_assoc]
theorem AtSplit.untexts {X : Rd} {rest : List UInt8} (h : AtSplit X rest) (hf : (X.tq 4).f = 0) : ∃ r, rest = txt (X.tq 0).text.1 ++ (txt (X.tq 1).text.1 ++ (txt (X.tq 2).text.1 ++ (txt (X.tq 3).text.1 ++ r))) ∧ (X.tq 0).text.1.size < 65536 ∧ (X.tq 1).text.1.size < 65536 ∧ (X.tq 2).text.1.size < 65536 ∧ (X.tq 3).text.1.size < 65536 ∧ AtSplit (X.tq 4) r := by
  have f13 : (X.tq 3).text.2.f = 0 := hf
  have f12 : (X.tq 2).text.2.f = 0 := (Rd.text_adv f13).1
  have f11 : (X.tq 1).text.2.f = 0 := (Rd.text_adv f12).1
  have f10 : (X.tq 0).text.2.f = 0 := (Rd.text_adv f11).1
  obtain ⟨r10, e10, z10, h10⟩ := AtSplit.untext (q := X.tq 0) h f10
  obtain ⟨r11, e11, z11, h11⟩ := AtSplit.untext (q := X.tq 1) h10 f11
  obtain ⟨r12, e12, z12, h12⟩ := AtSplit.untext (q := X.tq 2) h11 f12
  obtain ⟨r13, e13, z13, h13⟩ := AtSplit.untext (q := X.tq 3) h12 f13
  exact ⟨r13, by rw [e10, e11, e12, e13], z10, z11, z12, z13, h13⟩
theorem AtSplit.unnums {q : Rd} {rest : List UInt8} (h0 : AtSplit q rest) (hf : (St.nq q).f = 0) : ∃ r, rest = (St.read q).nums ++ r ∧ AtSplit (St.nq q) r := by
  unfold St.nq at hf ⊢
  have f8 := (Rd.num_adv hf).1
  have f7 := (Rd.num_adv f8).1
  have f6 := (Rd.num_adv f7).1
  have f5 := (Rd.num_adv f6).1
  have f4 := (Rd.num_adv f5).1
  have f3 := (Rd.num_adv f4).1
  have f2 := (Rd.num_adv f3).1
  have f1 := (Rd.num_adv f2).1
  obtain ⟨r1, e1, h1⟩ := h0.unnum f1
  obtain ⟨r2, e2, h2⟩ := h1.unnum f2
  obtain ⟨r3, e3, h3⟩ := h2.unnum f3
  obtain ⟨r4, e4, h4⟩ := h3.unnum f4
  obtain ⟨r5, e5, h5⟩ := h4.unnum f5
  obtain ⟨r6, e6, h6⟩ := h5.unnum f6
  obtain ⟨r7, e7, h7⟩ := h6.unnum f7
  obtain ⟨r8, e8, h8⟩ := h7.unnum f8
  obtain ⟨r9, e9, h9⟩ := h8.unnum hf
  refine ⟨r9, ?_, h9⟩
  rw [e1, e2, e3, e4, e5, e6, e7, e8, e9]
  simp only [St.read, St.nums, qidL, List.append_assoc]
theorem unread (B : ByteArray) (h : ((St.nq ⟨B, 0, 0⟩).tq 4).end_ = 0) : B.data.toList = (St.read ⟨B, 0, 0⟩).body ∧ (St.read ⟨B, 0, 0⟩).n.size < 65536 ∧ (St.read ⟨B, 0, 0⟩).u.size < 65536 ∧ (St.read ⟨B, 0, 0⟩).g.size < 65536 ∧ (St.read ⟨B, 0, 0⟩).m.size < 65536 := by
  have hR : (St.read ⟨B, 0, 0⟩).n = ((St.nq ⟨B, 0, 0⟩).tq 0).text.1 ∧ (St.read ⟨B, 0, 0⟩).u = ((St.nq ⟨B, 0, 0⟩).tq 1).text.1 ∧ (St.read ⟨B, 0, 0⟩).g = ((St.nq ⟨B, 0, 0⟩).tq 2).text.1 ∧ (St.read ⟨B, 0, 0⟩).m = ((St.nq ⟨B, 0, 0⟩).tq 3).text.1 := ⟨rfl, rfl, rfl, rfl⟩
  have h0 : AtSplit ⟨B, 0, 0⟩ B.data.toList := ⟨rfl, Nat.zero_le _, List.drop_zero ..⟩
  have hnum := h0.unnums
  generalize St.read ⟨B, 0, 0⟩ = s at *
  generalize St.nq ⟨B, 0, 0⟩ = X at *
  have hf : (X.tq 4).f = 0 := by
    unfold Rd.end_ at h
    split at h
    · rename_i g; exact absurd h g
    · rename_i g; omega
  have hat : ¬ (X.tq 4).at_ < (X.tq 4).s.size := by
    unfold Rd.end_ at h
    rw [if_neg (by omega)] at h
    split at h
    · omega
    · assumption
  obtain ⟨r, e1, h1⟩ := hnum (Rd.tq_adv hf).1
  obtain ⟨r2, e2, z1, z2, z3, z4, h2⟩ := h1.untexts hf
  obtain ⟨g1, g2, g3, g4⟩ := hR
  rw [← g1] at z1 e2
  rw [← g2] at z2 e2
  rw [← g3] at z3 e2
  rw [← g4] at z4 e2
  have hr : r2 = [] := by
    have := h2.size
    exact List.eq_nil_of_length_eq_zero (by omega)
  refine ⟨?_, z1, z2, z3, z4⟩
  rw [e1, e2, hr]
  simp only [St.body, List.append_assoc, List.append_nil]
theorem body_len {b : ByteArray} (g1 : 2 ≤ b.size) : bodyLen b < 65536 := by
  have := leNat_lt (b.extract 0 2).data.toList
  rw [bsize, show (b.extract 0 2).size = 2 from by rw [ByteArray.size_extract]; omega] at this
  exact this
theorem enc_body {b : ByteArray} {s : St} (g1 : 2 ≤ b.size) (h2 : 2 + bodyLen b = b.size) (hb : (b.extract 2 (2 + bodyLen b)).data.toList = s.body) : encS s = (b, 0) := by
  have hlen := body_len g1
  have hbs : (b.extract 2 (2 + bodyLen b)).size = bodyLen b := by rw [ByteArray.size_extract]; omega
  have htot : s.tot = bodyLen b := by rw [← St.body_length, ← hb, bsize, hbs]
  have e1 : leBytes 2 (bodyLen b) = b.data.toList.take 2 := by
    have h3 := leBytes_leNat (b.extract 0 2).data.toList
    rw [bsize, show (b.extract 0 2).size = 2 from by rw [ByteArray.size_extract]; omega] at h3
    rw [show leBytes 2 (bodyLen b) = _ from h3]
    have := extract_take b 0 2
    rw [List.drop_zero] at this
    exact this
  have e2 : (b.extract 2 (2 + bodyLen b)).data.toList = b.data.toList.drop 2 := by
    rw [extract_take, List.take_of_length_le]
    rw [List.length_drop, bsize]
    omega
  have e3 : leBytes 2 s.tot ++ s.body = b.data.toList := by rw [htot, e1, ← hb, e2, List.take_append_drop]
  have e4 : bs (leBytes 2 s.tot ++ s.body) = b := by rw [e3, bs_of]
  unfold encS
  rw [if_neg (by omega), e4]
theorem next_full {b : ByteArray} (h1 : (nextS b).2.2 = 0) : 2 ≤ b.size ∧ 2 + bodyLen b ≤ b.size ∧ ((St.nq ⟨b.extract 2 (2 + bodyLen b), 0, 0⟩).tq 4).end_ = 0 ∧ nextS b = (St.read ⟨b.extract 2 (2 + bodyLen b), 0, 0⟩, 2 + bodyLen b, 0) := by
  have g1 : 2 ≤ b.size := by
    rcases Nat.lt_or_ge b.size 2 with g | g
    · rw [nextS_short1 g] at h1; exact absurd h1 (show (50 : Int) ≠ 0 by decide)
    · exact g
  have g2 : 2 + bodyLen b ≤ b.size := by
    rcases Nat.lt_or_ge b.size (2 + bodyLen b) with g | g
    · rw [nextS_short2 g1 g] at h1; exact absurd h1 (show (50 : Int) ≠ 0 by decide)
    · exact g
  have hb := nextS_body g1 g2
  by_cases he : ((St.nq ⟨b.extract 2 (2 + bodyLen b), 0, 0⟩).tq 4).end_ ≠ 0
  · rw [if_pos he] at hb
    rw [hb] at h1
    exact absurd h1 (show (51 : Int) ≠ 0 by decide)
  · rw [if_neg he] at hb
    exact ⟨g1, g2, Decidable.not_not.1 he, hb⟩
theorem enc_dec (b : ByteArray) (h : (decS b).2 = 0) : encS (decS b).1 = (b, 0) ∧ (decS b).1.n.size ≤ 65535 ∧ (decS b).1.u.size ≤ 65535 ∧ (decS b).1.g.size ≤ 65535 ∧ (decS b).1.m.size ≤ 65535 := by
  have hd : decS b = if (nextS b).2.2 ≠ 0 then (St.zero, (nextS b).2.2) else if (nextS b).2.1 ≠ b.size then (St.zero, 51) else ((nextS b).1, 0) := rfl
  by_cases h1 : (nextS b).2.2 ≠ 0
  · rw [if_pos h1] at hd
    rw [hd] at h
    exact absurd h h1
  rw [if_neg h1] at hd
  by_cases h2 : (nextS b).2.1 ≠ b.size
  · rw [if_pos h2] at hd
    rw [hd] at h
    exact absurd h (show (51 : Int) ≠ 0 by decide)
  rw [if_neg h2] at hd
  obtain ⟨g1, g2, he, hn⟩ := next_full (Decidable.not_not.1 h1)
  obtain ⟨hb, s1, s2, s3, s4⟩ := unread (b.extract 2 (2 + bodyLen b)) he
  have h2' := Decidable.not_not.1 h2
  rw [hn] at hd h2'
  rw [hd]
  have h2'' : 2 + bodyLen b = b.size := h2'
  exact ⟨enc_body g1 h2'' hb, Nat.le_of_lt_succ s1, Nat.le_of_lt_succ s2, Nat.le_of_lt_succ s3, Nat.le_of_lt_succ s4⟩
end Go.Proofs.Ytjhhknmdnkkknaa
