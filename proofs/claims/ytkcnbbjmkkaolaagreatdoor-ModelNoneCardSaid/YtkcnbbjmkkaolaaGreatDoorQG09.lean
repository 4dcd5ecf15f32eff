/- A tree of files, plain: Create keeps it whole.
   A tree of files, plain: Remove and Wstat keep it whole.
   The package's tree: Remove.
   The package's tree: a new node is put into the map; Create's question of the mode.
   The package's tree: the sort of a row of files.
   The law of the trees: qids alike or not; rows of stats, of files, alike or not. -/
import Derived.Test.YtkcnbbjmkkaolaaGreatDoorQG08
import Derived.Test.YtkcnbbjmkkaolaaGreatDoorQG05
import Derived.Test.YtkcnbbjmkkaolaaGreatDoorQG06
import Derived.Test.YtkcnbbjmkkaolaaGreatDoorQG00
import Derived.Test.YtkcnbbjmkkaolaaGreatDoorShelf
set_option linter.unusedVariables false
set_option linter.unusedSimpArgs false
namespace Go.Proofs.YtkcnbbjmkkaolaaGreatDoor

theorem put_mem {p k : Nat} : ∀ {l : List Nat}, k ∈ putKid l p → k = p ∨ k ∈ l := by
  intro l
  induction l with
  | nil => intro h; exact .inl (List.mem_singleton.1 h)
  | cons x r ih =>
    intro h
    unfold putKid at h
    split at h
    · rcases List.mem_cons.1 h with e | e
      · exact .inl e
      · exact .inr (List.mem_cons_of_mem _ e)
    · rcases List.mem_cons.1 h with e | e
      · exact .inr (by rw [e]; exact List.mem_cons_self ..)
      · rcases ih e with f | f
        · exact .inl f
        · exact .inr (List.mem_cons_of_mem _ f)
theorem put_count {p q : Nat} (h0 : q ≠ 0) : ∀ {l : List Nat}, (putKid l p).count q = l.count q + if q = p then 1 else 0 := by
  intro l
  induction l with
  | nil =>
    show [p].count q = 0 + _
    rw [List.count_singleton, Nat.zero_add]
    by_cases h : q = p
    · simp [h]
    · rw [if_neg h, if_neg (by simpa using fun e => h e.symm)]
  | cons x r ih =>
    unfold putKid
    by_cases hx : x = 0
    · rw [if_pos hx, List.count_cons, List.count_cons, hx]
      have e0 : ((0 : Nat) == q) = false := by simpa using fun e => h0 e.symm
      rw [e0]
      by_cases h : q = p
      · simp [h]
      · rw [if_neg (by simpa using fun e => h e.symm), if_neg h]
        simp
    · rw [if_neg hx, List.count_cons, List.count_cons, ih]
      omega
theorem put_len {p : Nat} : ∀ {l : List Nat}, (putKid l p).length ≤ max l.length ((l.filter fun k => decide (k ≠ 0)).length + 1) := by
  intro l
  induction l with
  | nil => show 1 ≤ max 0 1; decide
  | cons x r ih =>
    unfold putKid
    by_cases hx : x = 0
    · rw [if_pos hx, List.length_cons, List.length_cons]
      omega
    · rw [if_neg hx, List.length_cons, List.length_cons, List.filter_cons_of_pos (by simpa using hx), List.length_cons]
      omega
theorem look_app {A : List Nd} {n : Nd} {q : Nat} : look (A ++ [n]) q = match look A q with | some m => some m | none => if n.path = q then some n else none := by
  unfold look
  rw [List.find?_append]
  cases A.find? fun n => n.path == q with
  | some m => rfl
  | none =>
    rw [List.find?_cons, List.find?_nil]
    by_cases h : n.path = q
    · rw [show (n.path == q) = true by simpa using h, if_pos h]; rfl
    · rw [show (n.path == q) = false by simpa using h, if_neg h]; rfl
theorem newPerm_lt (b : Bool) (perm dp : Nat) : newPerm b perm dp < 512 := by
  unfold newPerm
  have h1 : perm &&& 511 &&& (4294967295 - ((if b then 511 else 438) &&& (4294967295 - dp))) ≤ perm &&& 511 := Nat.and_le_left
  have h2 : perm &&& 511 ≤ 511 := Nat.and_le_right
  omega
/-- what Create does, when nothing stands in its way -/
def createT' (T : Tr) (d : Nd) (name : ByteArray) (perm : Nat) (who : ByteArray) (now : Nat) : Tr :=
  ⟨updN T.L d.path (fun d => Nd.touch { d with kids := putKid d.kids (T.last + 1) } who now) ++ [newNd T d name perm who now], T.last + 1⟩
theorem create_wf' {T : Tr} (h : WF T) {p : Nat} {d : Nd} (hd : look T.L p = some d) {name who : ByteArray} {perm now : Nat} (hnm : name.size ≤ 65536) (hw : who.size ≤ 65536) (ht : now < 4294967296) (hl : T.last + 1 < 18446744073709551616) (hfull : T.L.length < 1024) (hc : cntOf d < 112) : WF (createT' T d name perm who now) := by
  obtain ⟨hdm, hdp⟩ := look_some hd
  obtain ⟨F, hF⟩ : ∃ F : Nd → Nd, (fun d => Nd.touch { d with kids := putKid d.kids (T.last + 1) } who now) = F := ⟨_, rfl⟩
  have hFp : ∀ n, (F n).path = n.path := fun n => by rw [← hF]; rfl
  have hFr : ∀ n, (F n).parent = n.parent := fun n => by rw [← hF]; rfl
  have hFk : ∀ n, (F n).kids = putKid n.kids (T.last + 1) := fun n => by rw [← hF]; rfl
  obtain ⟨N, hN⟩ : ∃ N, newNd T d name perm who now = N := ⟨_, rfl⟩
  have hNp : N.path = T.last + 1 := by rw [← hN]; rfl
  have hNr : N.parent = d.path := by rw [← hN]; rfl
  have hNk : N.kids = [] := by rw [← hN]; rfl
  have hR : createT' T d name perm who now = ⟨updN T.L d.path F ++ [N], T.last + 1⟩ := by unfold createT'; rw [hF, hN]
  rw [hR]
  have g1 : ∀ m : Nd, (if m.path = d.path then F m else m).path = m.path := fun m => by split; exact hFp m; rfl
  have g2 : ∀ m : Nd, (if m.path = d.path then F m else m).parent = m.parent := fun m => by split; exact hFr m; rfl
  have gl : ∀ q, look (updN T.L d.path F) q = (look T.L q).map fun n => if n.path = d.path then F n else n := fun q => upd_get hFp
  have hnone : look T.L (T.last + 1) = none := by
    cases hx : look T.L (T.last + 1) with
    | none => rfl
    | some m => obtain ⟨a, b⟩ := look_some hx; have := (h.lo m a).2; omega
  have hlk : ∀ q m, look T.L q = some m → look (updN T.L d.path F ++ [N]) q = some (if m.path = d.path then F m else m) := fun q m hm => by
    rw [look_app, gl, hm]; rfl
  have hlN : look (updN T.L d.path F ++ [N]) (T.last + 1) = some N := by
    rw [look_app, gl, hnone]
    show (if N.path = T.last + 1 then some N else none) = _
    rw [if_pos hNp]
  have hroot := h.root
  obtain ⟨r, hr1, hr2⟩ := hroot
  have hlast : 1 ≤ T.last := by obtain ⟨a, b⟩ := look_some hr1; have := h.lo r a; omega
  have hkl : ∀ m ∈ T.L, (T.last + 1) ∉ m.kids := fun m hm hk => by
    obtain ⟨n, hn, _⟩ := h.kid m hm _ hk (by omega)
    rw [hnone] at hn; cases hn
  have hmem : ∀ {n : Nd}, n ∈ updN T.L d.path F ++ [N] → (∃ m ∈ T.L, n = if m.path = d.path then F m else m) ∨ n = N := fun {n} hn => by
    rcases List.mem_append.1 hn with x | x
    · exact .inl (upd_mem x)
    · exact .inr (List.mem_singleton.1 x)
  refine ⟨?_, ?_, ?_, ?_, ?_, ?_, ?_, ?_, ?_⟩
  · show (updN T.L d.path F ++ [N]).Pairwise _
    refine List.pairwise_append.2 ⟨?_, List.pairwise_singleton _ _, fun a ha b hb => ?_⟩
    · unfold updN
      rw [List.pairwise_map]
      exact h.rise.imp fun hab => by rw [g1, g1]; exact hab
    · obtain ⟨m, hm, rfl⟩ := upd_mem ha
      rw [List.mem_singleton.1 hb, g1, hNp]
      have := (h.lo m hm).2
      omega
  · intro n hn
    show 1 ≤ n.path ∧ n.path ≤ T.last + 1
    rcases hmem hn with ⟨m, hm, rfl⟩ | rfl
    · rw [g1]; have := h.lo m hm; omega
    · rw [hNp]; omega
  · intro n hn
    rcases hmem hn with ⟨m, hm, rfl⟩ | rfl
    · split
      · rename_i e
        obtain rfl : m = d := by
          have h1 := look_of h.rise hm
          rw [e, look_of h.rise hdm] at h1
          injection h1 with h1
          exact h1.symm
        have hk := h.ok m hm
        rw [← hF]
        refine touch_ok ⟨hk.path, hk.ver, hk.perm, hk.uid, hk.gid, hk.muid, hk.atime, hk.mtime, hk.parent, hk.name, hk.data, ?_, ?_⟩ hw ht
        · show (putKid m.kids (T.last + 1)).length ≤ 112
          have h1 := put_len (p := T.last + 1) (l := m.kids)
          have h2 := hk.kl
          have h3 : (m.kids.filter fun k => decide (k ≠ 0)).length < 112 := hc
          omega
        · intro k hk'
          rcases put_mem hk' with e | e
          · omega
          · exact hk.kids k e
      · exact h.ok m hm
    · have hk := h.ok d hdm
      rw [← hN]
      exact ⟨hl, by show 0 < _; decide, newPerm_lt _ _ _, hw, hk.gid, hw, ht, ht, hk.path, hnm, by show 0 ≤ _; decide, by show 0 ≤ _; decide, fun k hk => by cases hk⟩
  · show (updN T.L d.path F ++ [N]).length ≤ 1024
    unfold updN
    rw [List.length_append, List.length_map, List.length_singleton]
    omega
  · intro n hn
    rcases hmem hn with ⟨m, hm, rfl⟩ | rfl
    · obtain ⟨q, hq⟩ := h.par m hm
      rw [g2]
      exact ⟨_, hlk _ _ hq⟩
    · rw [hNr]
      exact ⟨_, hlk _ _ (look_of h.rise hdm)⟩
  · intro c hc k hk hk0
    rcases hmem hc with ⟨m, hm, rfl⟩ | rfl
    · by_cases e : m.path = d.path
      · rw [if_pos e, hFk] at hk
        rw [g1]
        rcases put_mem hk with e1 | e1
        · subst e1
          exact ⟨N, hlN, by rw [hNr, e], by omega⟩
        · obtain ⟨n, hn, e2, e3⟩ := h.kid m hm k e1 hk0
          exact ⟨_, hlk _ _ hn, by rw [g2]; exact e2, e3⟩
      · rw [if_neg e] at hk
        rw [g1]
        obtain ⟨n, hn, e2, e3⟩ := h.kid m hm k hk hk0
        exact ⟨_, hlk _ _ hn, by rw [g2]; exact e2, e3⟩
    · rw [hNk] at hk; cases hk
  · intro n hn h1 c hc
    rcases hmem hn with ⟨m, hm, rfl⟩ | rfl
    · rw [g1] at h1 ⊢
      rw [g2] at hc
      obtain ⟨q, hq⟩ := h.par m hm
      have hc' : look (updN T.L d.path F ++ [N]) m.parent = some c := hc
      rw [hlk _ _ hq] at hc'
      injection hc' with hc'
      have h0 := h.one m hm h1 q hq
      have hlo := h.lo m hm
      rw [← hc']
      split
      · rw [hFk, put_count (by omega), h0, if_neg (by omega)]
      · exact h0
    · rw [hNr] at hc
      have hc' : look (updN T.L d.path F ++ [n]) d.path = some c := hc
      rw [hlk _ _ (look_of h.rise hdm), if_pos rfl] at hc'
      injection hc' with hc'
      rw [← hc', hFk, hNp, put_count (by omega), if_pos rfl, List.count_eq_zero_of_not_mem (hkl d hdm)]
  · exact ⟨_, hlk _ _ hr1, by rw [g2]; exact hr2⟩
  · intro n hn h1
    rcases hmem hn with ⟨m, hm, rfl⟩ | rfl
    · rw [g1] at h1
      rw [g1, g2]
      exact h.up m hm h1
    · rw [hNp, hNr]
      have := (h.lo d hdm).2
      omega
theorem create_eq {T : Tr} {p : Nat} {d : Nd} (hd : look T.L p = some d) (name : ByteArray) (perm m : Nat) (who : ByteArray) (now : Nat) :
    (createT T p name perm m who now).1 = if createE T d name perm m who ≠ 0 then T else createT' T d name perm who now := by
  obtain ⟨_, hp⟩ := look_some hd
  unfold createT
  rw [hd]
  show Prod.fst (if _ then _ else _ : Tr × Qi × Int) = _
  split
  · rfl
  · unfold createT'; rw [hp]
theorem createE_zero {T : Tr} {d : Nd} {name : ByteArray} {perm m : Nat} {who : ByteArray} (h : ¬ createE T d name perm m who ≠ 0) : d.dir = true ∧ mayB d who 2 = true ∧ nameOk name = true ∧ userOk who = true ∧ perm &&& 2147483136 = 0 ∧ kidOf T.L d name = none ∧ T.L.length < 1024 ∧ cntOf d < 112 := by
  unfold createE at h
  split at h
  · exact absurd (by decide) h
  split at h
  · exact absurd (by decide) h
  split at h
  · exact absurd (by decide) h
  split at h
  · exact absurd (by decide) h
  split at h
  · exact absurd (by decide) h
  split at h
  · exact absurd (by decide) h
  rename_i a1 a2 a3 a4 a5 a6
  refine ⟨by simpa using a1, by simpa using a2, ?_, ?_, ?_, ?_, by omega, by omega⟩
  · by_cases e : nameOk name = true
    · exact e
    · exact absurd (.inl (by simpa using e)) a3
  · by_cases e : userOk who = true
    · exact e
    · exact absurd (.inr (by simpa using e)) a3
  · by_cases e : perm &&& 2147483136 = 0
    · exact e
    · exact absurd (.inl e) a4
  · by_cases e : kidOf T.L d name = none
    · exact e
    · exact absurd e a5
theorem create_wf {T : Tr} (h : WF T) (p : Nat) {name who : ByteArray} {now : Nat} (perm m : Nat) (hn : name.size ≤ 65536) (hw : who.size ≤ 65536) (ht : now < 4294967296) (hl : T.last + 1 < 18446744073709551616) : WF (createT T p name perm m who now).1 := by
  cases hd : look T.L p with
  | none => unfold createT; rw [hd]; exact h
  | some d =>
    rw [create_eq hd]
    split
    · exact h
    · rename_i e
      obtain ⟨_, _, _, _, _, _, h7, h8⟩ := createE_zero e
      exact create_wf' h hd hn hw ht hl h7 h8
theorem create_last {T : Tr} (p : Nat) (name who : ByteArray) (perm m now : Nat) : (createT T p name perm m who now).1.last ≤ T.last + 1 := by
  cases hd : look T.L p with
  | none => unfold createT; rw [hd]; exact Nat.le_succ _
  | some d =>
    rw [create_eq hd]
    split
    · exact Nat.le_succ _
    · exact Nat.le_refl _
end Go.Proofs.YtkcnbbjmkkaolaaGreatDoor
namespace Go.Proofs.YtkcnbbjmkkaolaaGreatDoor

def zap (p : Nat) (l : List Nat) : List Nat := l.map fun k => if k = p then 0 else k
theorem zap_mem {p k : Nat} {l : List Nat} (h : k ∈ zap p l) : k = 0 ∨ (k ∈ l ∧ k ≠ p) := by
  unfold zap at h
  obtain ⟨x, hx, e⟩ := List.mem_map.1 h
  by_cases hp : x = p
  · rw [if_pos hp] at e; exact .inl e.symm
  · rw [if_neg hp] at e; subst e; exact .inr ⟨hx, hp⟩
theorem zap_count {p q : Nat} (h0 : q ≠ 0) (hp : q ≠ p) {l : List Nat} : (zap p l).count q = l.count q := by
  unfold zap
  induction l with
  | nil => rfl
  | cons x r ih =>
    rw [List.map_cons, List.count_cons, List.count_cons, ih]
    by_cases hx : x = p
    · rw [if_pos hx, hx]
      have e1 : ((0 : Nat) == q) = false := by simpa using fun e => h0 e.symm
      have e2 : (p == q) = false := by simpa using fun e => hp e.symm
      rw [e1, e2]
    · rw [if_neg hx]
def removeT' (T : Tr) (n : Nd) (who : ByteArray) (now : Nat) : Tr :=
  { T with L := updN (T.L.filter fun m => decide (m.path ≠ n.path)) n.parent fun d => Nd.touch { d with kids := d.kids.map fun k => if k = n.path then 0 else k } who now }
theorem remove_eq {T : Tr} {p : Nat} {n : Nd} (hn : look T.L p = some n) (who : ByteArray) (now : Nat) : (removeT T p who now).1 = if removeE T n who ≠ 0 then T else removeT' T n who now := by
  obtain ⟨_, hp⟩ := look_some hn
  unfold removeT
  rw [hn]
  show Prod.fst (if _ then _ else _ : Tr × Int) = _
  split
  · rfl
  · unfold removeT'; rw [hp]
theorem removeE_zero {T : Tr} {n : Nd} {who : ByteArray} (h : ¬ removeE T n who ≠ 0) : n.path ≠ 1 ∧ mayB (parOf T.L n) who 2 = true ∧ cntOf n = 0 := by
  unfold removeE at h
  split at h
  · exact absurd (by decide) h
  split at h
  · exact absurd (by decide) h
  split at h
  · exact absurd (by decide) h
  rename_i a1 a2 a3
  exact ⟨a1, by simpa using a2, by omega⟩
/-- a file that has no kids is no file's parent -/
theorem no_kids {T : Tr} (h : WF T) {n m : Nd} (hn : n ∈ T.L) (hm : m ∈ T.L) (h1 : n.path ≠ 1) (hc : cntOf n = 0) : m.parent ≠ n.path := by
  intro e
  by_cases hm1 : m.path = 1
  · obtain ⟨r, hr, hr2⟩ := h.root
    have h2 := look_of h.rise hm
    rw [hm1, hr] at h2
    injection h2 with h2
    rw [← h2, hr2] at e
    exact h1 e.symm
  · have h2 := h.one m hm hm1 n (by rw [e]; exact look_of h.rise hn)
    have h3 : m.path ∈ n.kids := List.count_pos_iff.1 (by omega)
    have h4 := cnt_pos h3 (by have := h.lo m hm; omega)
    omega
theorem remove_wf' {T : Tr} (h : WF T) {n : Nd} (hn : n ∈ T.L) {who : ByteArray} {now : Nat} (hw : who.size ≤ 65536) (ht : now < 4294967296) (h1 : n.path ≠ 1) (hc : cntOf n = 0) : WF (removeT' T n who now) := by
  obtain ⟨F, hF⟩ : ∃ F : Nd → Nd, (fun d => Nd.touch { d with kids := d.kids.map fun k => if k = n.path then 0 else k } who now) = F := ⟨_, rfl⟩
  have hFp : ∀ n, (F n).path = n.path := fun n => by rw [← hF]; rfl
  have hFr : ∀ n, (F n).parent = n.parent := fun n => by rw [← hF]; rfl
  have hFk : ∀ m, (F m).kids = zap n.path m.kids := fun n => by rw [← hF]; rfl
  obtain ⟨L2, hL2⟩ : ∃ L2, (T.L.filter fun m => decide (m.path ≠ n.path)) = L2 := ⟨_, rfl⟩
  have hR : removeT' T n who now = ⟨updN L2 n.parent F, T.last⟩ := by unfold removeT'; rw [hF, hL2]
  rw [hR]
  have g1 : ∀ m : Nd, (if m.path = n.parent then F m else m).path = m.path := fun m => by split; exact hFp m; rfl
  have g2 : ∀ m : Nd, (if m.path = n.parent then F m else m).parent = m.parent := fun m => by split; exact hFr m; rfl
  have hin : ∀ {m : Nd}, m ∈ L2 ↔ m ∈ T.L ∧ m.path ≠ n.path := fun {m} => by rw [← hL2, List.mem_filter]; simp
  have hlk : ∀ q m, q ≠ n.path → look T.L q = some m → look (updN L2 n.parent F) q = some (if m.path = n.parent then F m else m) := fun q m hq hm => by
    rw [upd_get hFp, ← hL2, look_filter hq, hm]; rfl
  have hup : ∀ {m : Nd}, m ∈ updN L2 n.parent F → ∃ m' ∈ T.L, m'.path ≠ n.path ∧ m = if m'.path = n.parent then F m' else m' := fun {m} hm => by
    obtain ⟨m', hm', e⟩ := upd_mem hm
    exact ⟨m', (hin.1 hm').1, (hin.1 hm').2, e⟩
  refine ⟨?_, ?_, ?_, ?_, ?_, ?_, ?_, ?_, ?_⟩
  · show (updN L2 n.parent F).Pairwise _
    unfold updN
    rw [List.pairwise_map, ← hL2]
    exact (h.rise.filter _).imp fun hab => by rw [g1, g1]; exact hab
  · intro m hm
    obtain ⟨m', hm', _, rfl⟩ := hup hm
    rw [g1]
    exact h.lo m' hm'
  · intro m hm
    obtain ⟨m', hm', _, rfl⟩ := hup hm
    have hk := h.ok m' hm'
    split
    · rw [← hF]
      refine touch_ok ⟨hk.path, hk.ver, hk.perm, hk.uid, hk.gid, hk.muid, hk.atime, hk.mtime, hk.parent, hk.name, hk.data, ?_, ?_⟩ hw ht
      · show (m'.kids.map _).length ≤ 112
        rw [List.length_map]; exact hk.kl
      · intro k hk'
        rcases zap_mem (p := n.path) hk' with e | ⟨e, _⟩
        · omega
        · exact hk.kids k e
    · exact hk
  · show (updN L2 n.parent F).length ≤ 1024
    unfold updN
    rw [List.length_map, ← hL2]
    exact Nat.le_trans (List.length_filter_le _ _) h.len
  · intro m hm
    obtain ⟨m', hm', _, rfl⟩ := hup hm
    obtain ⟨q, hq⟩ := h.par m' hm'
    rw [g2]
    exact ⟨_, hlk _ _ (no_kids h hn hm' h1 hc) hq⟩
  · intro d hd k hk hk0
    obtain ⟨m, hm, _, rfl⟩ := hup hd
    rw [g1]
    have hk2 : k ∈ m.kids ∧ k ≠ n.path := by
      by_cases e : m.path = n.parent
      · rw [if_pos e, hFk] at hk
        rcases zap_mem hk with e1 | e1
        · exact absurd e1 hk0
        · exact e1
      · rw [if_neg e] at hk
        refine ⟨hk, fun e2 => e ?_⟩
        obtain ⟨x, hx, e3, _⟩ := h.kid m hm k hk hk0
        rw [e2, look_of h.rise hn] at hx
        injection hx with hx
        rw [← e3, hx]
    obtain ⟨x, hx, e2, e3⟩ := h.kid m hm k hk2.1 hk0
    exact ⟨_, hlk _ _ hk2.2 hx, by rw [g2]; exact e2, e3⟩
  · intro m hm hm1 d hd
    obtain ⟨m', hm', hmn, rfl⟩ := hup hm
    rw [g1] at hm1 ⊢
    rw [g2] at hd
    obtain ⟨q, hq⟩ := h.par m' hm'
    have hd' : look (updN L2 n.parent F) m'.parent = some d := hd
    rw [hlk _ _ (no_kids h hn hm' h1 hc) hq] at hd'
    injection hd' with hd'
    have h0 := h.one m' hm' hm1 q hq
    rw [← hd']
    split
    · rw [hFk, zap_count (by have := h.lo m' hm'; omega) hmn, h0]
    · exact h0
  · obtain ⟨r, hr1, hr2⟩ := h.root
    exact ⟨_, hlk _ _ (fun e => h1 e.symm) hr1, by rw [g2]; exact hr2⟩
  · intro m hm hm1
    obtain ⟨m', hm', _, rfl⟩ := hup hm
    rw [g1] at hm1
    rw [g1, g2]
    exact h.up m' hm' hm1
theorem remove_wf {T : Tr} (h : WF T) (p : Nat) {who : ByteArray} {now : Nat} (hw : who.size ≤ 65536) (ht : now < 4294967296) : WF (removeT T p who now).1 := by
  cases hd : look T.L p with
  | none => unfold removeT; rw [hd]; exact h
  | some n =>
    rw [remove_eq hd]
    split
    · exact h
    · rename_i e
      obtain ⟨h1, _, h3⟩ := removeE_zero e
      exact remove_wf' h (look_some hd).1 hw ht h1 h3
/-- a stat's numbers and texts in their bounds -/
structure St.Bd (s : St) : Prop where
  ok : s.Ok
  n : s.n.size ≤ 65536
  u : s.u.size ≤ 65536
  g : s.g.size ≤ 65536
  m : s.m.size ≤ 65536
theorem wstatN_path (n : Nd) (s : St) (who : ByteArray) (now : Nat) : (wstatN n s who now).path = n.path ∧ (wstatN n s who now).parent = n.parent ∧ (wstatN n s who now).kids = n.kids ∧ (wstatN n s who now).dir = n.dir := by
  unfold wstatN
  simp only
  split
  · exact ⟨rfl, rfl, rfl, rfl⟩
  · exact ⟨rfl, rfl, rfl, rfl⟩
theorem wstatN_ok {n : Nd} {s : St} {who : ByteArray} {now : Nat} (h : n.Ok) (hs : s.Bd) (hw : who.size ≤ 65536) (ht : now < 4294967296) (hl : (filledS s (statOf n)).len ≠ n.data.size → (filledS s (statOf n)).len ≤ 7168) : (wstatN n s who now).Ok := by
  have hN : (filledS s (statOf n)).n.size ≤ 65536 := by
    show (orS s.n n.name).size ≤ _
    unfold orS; split
    · exact h.name
    · exact hs.n
  have hG : (filledS s (statOf n)).g.size ≤ 65536 := by
    show (orS s.g n.gid).size ≤ _
    unfold orS; split
    · exact h.gid
    · exact hs.g
  have hP : (filledS s (statOf n)).mo &&& 511 < 512 := by have : (filledS s (statOf n)).mo &&& 511 ≤ 511 := Nat.and_le_right; omega
  unfold wstatN
  simp only
  split
  · rename_i e
    have hl' := hl e
    refine ⟨h.path, Nat.mod_lt _ (by decide), hP, h.uid, hG, hw, h.atime, ?_, h.parent, hN, ?_, h.kl, h.kids⟩
    · show (if s.mt ≠ 4294967295 then s.mt else now) < _
      split
      · exact hs.ok.mt
      · exact ht
    · show (sizedB n.data _).size ≤ _
      rw [sized_size]; exact hl'
  · refine ⟨h.path, h.ver, hP, h.uid, hG, h.muid, h.atime, ?_, h.parent, hN, h.data, h.kl, h.kids⟩
    show (if s.mt ≠ 4294967295 then s.mt else n.mtime) < _
    split
    · exact hs.ok.mt
    · exact h.mtime
def wstatT' (T : Tr) (n : Nd) (s : St) (who : ByteArray) (now : Nat) : Tr :=
  { T with L := updN (if (filledS s (statOf n)).n ≠ n.name then updN T.L n.parent (fun d => Nd.touch d who now) else T.L) n.path fun n => wstatN n s who now }
theorem wstat_eq {T : Tr} {p : Nat} {n : Nd} (hn : look T.L p = some n) (s : St) (who : ByteArray) (now : Nat) : (wstatT T p s who now).1 = if wstatE T n s who ≠ 0 then T else wstatT' T n s who now := by
  obtain ⟨_, hp⟩ := look_some hn
  unfold wstatT
  rw [hn]
  show Prod.fst (if _ then _ else _ : Tr × Int) = _
  split
  · rfl
  · unfold wstatT'; rw [hp]
theorem ite_z {c : Prop} [Decidable c] {e r : Int} (he : e ≠ 0) (h : ¬ (if c then e else r) ≠ 0) : ¬ c ∧ ¬ r ≠ 0 := by
  by_cases hc : c
  · rw [if_pos hc] at h; exact absurd he h
  · rw [if_neg hc] at h; exact ⟨hc, h⟩
theorem wstatE_zero {T : Tr} {n : Nd} {s : St} {who : ByteArray} (h : ¬ wstatE T n s who ≠ 0) : ((filledS s (statOf n)).n ≠ n.name → n.path ≠ 1 ∧ nameOk (filledS s (statOf n)).n = true ∧ mayB (parOf T.L n) who 2 = true ∧ kidOf T.L (parOf T.L n) (filledS s (statOf n)).n = none) ∧
    ((filledS s (statOf n)).len ≠ n.data.size → n.dir = false ∧ (filledS s (statOf n)).len ≤ 7168 ∧ mayB n who 2 = true) ∧ ((filledS s (statOf n)).mo ≠ modeOf n → who = n.uid ∧ ((filledS s (statOf n)).mo ^^^ modeOf n) &&& 4294966784 = 0) ∧ ((filledS s (statOf n)).g ≠ n.gid → who = n.uid ∧ userOk (filledS s (statOf n)).g = true) ∧ ((filledS s (statOf n)).mt ≠ n.mtime → who = n.uid) := by
  unfold wstatE at h
  dsimp only at h
  obtain ⟨a0, h⟩ := ite_z (by decide) h
  obtain ⟨a1, h⟩ := ite_z (by decide) h
  obtain ⟨a2, h⟩ := ite_z (by decide) h
  obtain ⟨a3, h⟩ := ite_z (by decide) h
  obtain ⟨a4, h⟩ := ite_z (by decide) h
  obtain ⟨a5, h⟩ := ite_z (by decide) h
  obtain ⟨a6, h⟩ := ite_z (by decide) h
  obtain ⟨a7, h⟩ := ite_z (by decide) h
  obtain ⟨a8, h⟩ := ite_z (by decide) h
  obtain ⟨a9, h⟩ := ite_z (by decide) h
  obtain ⟨a10, h⟩ := ite_z (by decide) h
  obtain ⟨a11, h⟩ := ite_z (by decide) h
  obtain ⟨a12, h⟩ := ite_z (by decide) h
  refine ⟨fun e => ⟨fun x => a1 ⟨e, x⟩, ?_, ?_, ?_⟩, fun e => ⟨?_, ?_, ?_⟩, fun e => ⟨?_, ?_⟩, fun e => ⟨?_, ?_⟩, fun e => ?_⟩
  · by_cases x : nameOk (filledS s (statOf n)).n = true
    · exact x
    · exact absurd ⟨e, by simpa using x⟩ a3
  · by_cases x : mayB (parOf T.L n) who 2 = true
    · exact x
    · exact absurd ⟨e, by simpa using x⟩ a2
  · by_cases x : kidOf T.L (parOf T.L n) (filledS s (statOf n)).n = none
    · exact x
    · exact absurd ⟨e, x⟩ a4
  · by_cases x : n.dir = true
    · exact absurd ⟨e, x⟩ a5
    · simpa using x
  · by_cases x : 7168 < (filledS s (statOf n)).len
    · exact absurd ⟨e, x⟩ a7
    · omega
  · by_cases x : mayB n who 2 = true
    · exact x
    · exact absurd ⟨e, by simpa using x⟩ a6
  · by_cases x : who = n.uid
    · exact x
    · exact absurd ⟨e, x⟩ a8
  · by_cases x : ((filledS s (statOf n)).mo ^^^ modeOf n) &&& 4294966784 = 0
    · exact x
    · exact absurd ⟨e, x⟩ a9
  · by_cases x : who = n.uid
    · exact x
    · exact absurd ⟨e, x⟩ a10
  · by_cases x : userOk (filledS s (statOf n)).g = true
    · exact x
    · exact absurd ⟨e, by simpa using x⟩ a11
  · by_cases x : who = n.uid
    · exact x
    · exact absurd ⟨e, x⟩ a12
theorem wstat_wf {T : Tr} (h : WF T) (p : Nat) {s : St} {who : ByteArray} {now : Nat} (hs : s.Bd) (hw : who.size ≤ 65536) (ht : now < 4294967296) : WF (wstatT T p s who now).1 := by
  cases hd : look T.L p with
  | none => unfold wstatT; rw [hd]; exact h
  | some n =>
    rw [wstat_eq hd]
    split
    · exact h
    · rename_i e
      obtain ⟨e1, e2, _⟩ := wstatE_zero e
      obtain ⟨hn, _⟩ := look_some hd
      unfold wstatT'
      by_cases hx : (filledS s (statOf n)).n ≠ n.name
      · rw [if_pos hx]
        have h1 : WF { T with L := updN T.L n.parent (fun d => Nd.touch d who now) } := h.upd n.parent _ (fun _ => rfl) (fun _ => rfl) (fun _ => rfl) fun m hm _ => touch_ok (h.ok m hm) hw ht
        refine h1.upd n.path _ (fun m => (wstatN_path m s who now).1) (fun m => (wstatN_path m s who now).2.1) (fun m => (wstatN_path m s who now).2.2.1) fun m hm hp => ?_
        obtain ⟨m', hm', e3⟩ := upd_mem hm
        have hpar : n.path ≠ n.parent := fun e4 => by
          have := h.up n hn (e1 hx).1
          omega
        have e5 : m' = n := by
          have h5 : m'.path = n.path := by
            rw [e3] at hp
            by_cases hq : m'.path = n.parent
            · rw [if_pos hq] at hp; exact hp
            · rw [if_neg hq] at hp; exact hp
          have h6 := look_of h.rise hm'
          rw [h5, look_of h.rise hn] at h6
          injection h6 with h6
          exact h6.symm
        subst e5
        rw [if_neg hpar] at e3
        subst e3
        exact wstatN_ok (h.ok m hm') hs hw ht fun e4 => (e2 e4).2.1
      · rw [if_neg hx]
        refine h.upd n.path _ (fun m => (wstatN_path m s who now).1) (fun m => (wstatN_path m s who now).2.1) (fun m => (wstatN_path m s who now).2.2.1) fun m hm hp => ?_
        have e5 : m = n := by
          have h6 := look_of h.rise hm
          rw [hp, look_of h.rise hn] at h6
          injection h6 with h6
          exact h6.symm
        subst e5
        exact wstatN_ok (h.ok m hm) hs hw ht fun e4 => (e2 e4).2.1
theorem remove_last {T : Tr} (p : Nat) (who : ByteArray) (now : Nat) : (removeT T p who now).1.last = T.last := by
  cases hd : look T.L p with
  | none => unfold removeT; rw [hd]
  | some n => rw [remove_eq hd]; split <;> rfl
theorem wstat_last {T : Tr} (p : Nat) (s : St) (who : ByteArray) (now : Nat) : (wstatT T p s who now).1.last = T.last := by
  cases hd : look T.L p with
  | none => unfold wstatT; rw [hd]
  | some n => rw [wstat_eq hd]; split <;> rfl
end Go.Proofs.YtkcnbbjmkkaolaaGreatDoor
namespace Go.Proofs.YtkcnbbjmkkaolaaGreatDoor
open Go.RowKit

theorem removeE_first (T : Tr) (n d : Nd) (who : ByteArray) (hp : parOf T.L n = d) (f1 f2 f3 : Nat) (c1 c2 c3 : Array Value) :
    firstE [⟨f1, c1, 187, decide (n.path = 1)⟩, ⟨f2, c2, 182, !mayB d who 2⟩, ⟨f3, c3, 185, decide (0 < cntOf n)⟩] = removeE T n who := by
  unfold removeE
  rw [hp]
  simp only [firstE_cons]
  exact ite_iff (by simp) (ite_iff (by simp) (ite_iff (by simp) rfl))
def PXst (ρ : Nat → Role) (b mb cnt : Nat) (am : Nat → Nat) (vk : Nat → Value) (R : Tr × Int) (w : World) (e : Ending) (w' : World) : Prop :=
  e = .returned (.int .i64 R.2) ∧ PTreeP w' ρ b mb cnt R.1 am vk ∧ Mod (Foot ρ) w w'
set_option maxHeartbeats 4000000 in
set_option maxRecDepth 100000 in
theorem premove_any {w : World} {ρ : Nat → Role} {b mb cnt : Nat} {T : Tr} {am : Nat → Nat} {vk : Nat → Value} (h : PTreeP w ρ b mb cnt T am vk) (hwf : WF T) (p : Nat) (who : ByteArray) (now : Nat) (hp : p < 18446744073709551616) :
    Calls Tryz.prog 32 #[.pointer (some ⟨b, 0, none⟩), .int .u64 p, .string who, .int .u32 now] w fun e w' => PXst ρ b mb cnt am vk (removeT T p who now) w e w' := by
  obtain ⟨W0, hW0⟩ : ∃ W0, ((w.alloc (.cells #[.pointer (some ⟨b, 0, none⟩)] 26)).alloc (.cells #[.int .u64 p] 33)).alloc (.cells #[.string who] 9) = W0 := ⟨_, rfl⟩
  have hsz : W0.heap.size = w.heap.size + 3 := by subst hW0; simp
  have hb0 : BoxA W0 w.heap.size (ptr b) 26 := by subst hW0; exact alloc_keep (alloc_keep (new_at _ _))
  have hb1 : BoxA W0 (w.heap.size + 1) (.int .u64 p) 33 := by subst hW0; exact alloc_keep (new_at' _ _ _ (by simp))
  have hb2 : BoxA W0 (w.heap.size + 1 + 1) (.string who) 9 := by subst hW0; exact new_at' _ _ _ (by simp)
  have M0 : Mod (fun _ => False) w W0 := by subst hW0; exact ((((Mod.refl _ w).alloc _).alloc _).alloc _)
  have H0 := h.mod0 M0
  have hG := pget_any H0 p hp
  have c0 : W0.cell? ⟨w.heap.size, 0, none⟩ = some (.pointer (some ⟨b, 0, none⟩)) := hb0.cell
  have c1 : W0.cell? ⟨w.heap.size + 1, 0, none⟩ = some (.int .u64 p) := hb1.cell
  cases hl : look T.L p with
  | none =>
    have e1 : ptrV T.L am p = .pointer none := by unfold ptrV; rw [hl]
    have HV : Hid (removeT T p who now = (T, 180)) := by show _ = _; unfold removeT; rw [hl]
    rw [e1, hl] at hG
    simp only [Option.isSome_none, Bool.false_eq_true, if_false] at hG
    obtain ⟨W1, hW1⟩ : ∃ W1, W0.alloc (.cells #[.pointer none] 75) = W1 := ⟨_, rfl⟩
    have hn1 : W1.heap[w.heap.size + 3]? = some (.cells #[.pointer none] 75 (0, 0)) := by subst hW1; exact new_at' _ _ _ hsz.symm
    have q1 : W1.cell? ⟨w.heap.size + 3, 0, none⟩ = some (.pointer none) := (cell_of hn1 0).trans rfl
    have q2 : W1.frozen? ⟨w.heap.size + 3, 0, none⟩ = false := free_of hn1 0
    have q3 : W1.setCell ⟨w.heap.size + 3, 0, none⟩ (.pointer none) = W1 := setCell_idR hn1 rfl
    have M1 : Hid (Mod (fun _ => False) w W1) := by subst hW1; exact M0.alloc _
    have H := Lib.hid h
    clear hn1 hb0 hb1 hb2 H0 h hwf e1 hl
    go_enter Tryz.func32, Tryz.ntmps32
    go_wp2_with fail
    clear hW0
    refine hG.mono ?_
    rintro e w1 ⟨rfl, rfl⟩
    go_wp2
    go_ret
    exact ⟨by rw [HV.out]; rfl, by rw [HV.out]; exact H.out.mod0 M1.out, M1.out.mono fun _ _ x => x.elim⟩
  | some n =>
    obtain ⟨hnm, hnp⟩ := look_some hl
    subst hnp
    have e1 : ptrV T.L am n.path = .pointer (some ⟨am n.path, 0, none⟩) := by unfold ptrV; rw [hl]
    rw [e1, hl] at hG
    simp only [Option.isSome_some, if_true] at hG
    obtain ⟨d, hd⟩ := hwf.par n hnm
    have hpd : parOf T.L n = d := by unfold parOf; rw [hd]; rfl
    obtain ⟨hdm, hdp⟩ := look_some hd
    have hfe := removeE_first T n d who hpd 77 78 79 #[ptr (w.heap.size + 1)] #[ptr (w.heap.size + 4), ptr (w.heap.size + 1 + 1)] #[ptr w.heap.size, ptr (w.heap.size + 3)]
    obtain ⟨W1, hW1⟩ : ∃ W1, W0.alloc (.cells #[.pointer (some ⟨am n.path, 0, none⟩)] 75) = W1 := ⟨_, rfl⟩
    have hsz1 : W1.heap.size = w.heap.size + 4 := by subst hW1; rw [World.size_alloc, hsz]
    have hn1 : BoxA W1 (w.heap.size + 3) (ptr (am n.path)) 75 := by subst hW1; exact new_at' _ _ _ hsz.symm
    have M1 : Mod (fun _ => False) W0 W1 := by subst hW1; exact (Mod.refl _ _).alloc _
    obtain ⟨W2, hW2⟩ : ∃ W2, (W1.alloc (.cells #[.pointer (some ⟨am d.path, 0, none⟩)] 75)).drew = W2 := ⟨_, rfl⟩
    have hsz2 : W2.heap.size = w.heap.size + 5 := by subst hW2; show (W1.alloc _).heap.size = _; rw [World.size_alloc, hsz1]
    have hn2 : BoxA W2 (w.heap.size + 4) (ptr (am d.path)) 75 := by subst hW2; exact new_at' W1 _ _ hsz1.symm
    have M2 : Mod (fun _ => False) W1 W2 := by subst hW2; exact ((Mod.refl _ _).alloc _).drew
    obtain ⟨W3, hW3⟩ : ∃ W3, W2.alloc (.cells #[.func (.func 77) #[] #[ptr (w.heap.size + 1)], .int .i64 187, .func (.func 78) #[] #[ptr (w.heap.size + 4), ptr (w.heap.size + 1 + 1)], .int .i64 182, .func (.func 79) #[] #[ptr w.heap.size, ptr (w.heap.size + 3)], .int .i64 185] 95) = W3 := ⟨_, rfl⟩
    have hask := new_at' W2 (.cells #[.func (.func 77) #[] #[ptr (w.heap.size + 1)], .int .i64 187, .func (.func 78) #[] #[ptr (w.heap.size + 4), ptr (w.heap.size + 1 + 1)], .int .i64 182, .func (.func 79) #[] #[ptr w.heap.size, ptr (w.heap.size + 3)], .int .i64 185] 95) _ hsz2.symm
    rw [hW3] at hask
    have M3 : Mod (fun _ => False) W2 W3 := by subst hW3; exact (Mod.refl _ _).alloc _
    have M23 := M2.trans M3
    have M13 := M1.trans M23
    have M := M0.trans M13
    have HT := h.mod0 M
    have hno := hwf.ok n hnm
    obtain ⟨l, hlq⟩ : ∃ l : List Ask, l = [⟨77, #[ptr (w.heap.size + 1)], 187, decide (n.path = 1)⟩, ⟨78, #[ptr (w.heap.size + 4), ptr (w.heap.size + 1 + 1)], 182, !mayB d who 2⟩, ⟨79, #[ptr w.heap.size, ptr (w.heap.size + 3)], 185, decide (0 < cntOf n)⟩] := ⟨_, rfl⟩
    have hF := pfirst_any l (w.heap.size + 5) 3 W3 (by rw [hlq]; exact (by decide : 3 ≤ 1000)) (by rw [hlq]; exact Nat.le_refl 3)
      (fun j hj => by
        subst hlq
        have hj4 : j < 3 := hj
        rcases j with _ | _ | _ | j
        · exact ⟨cell_of hask 0, cell_of hask 1⟩
        · exact ⟨cell_of hask 2, cell_of hask 3⟩
        · exact ⟨cell_of hask 4, cell_of hask 5⟩
        · omega)
      (fun a ha => by
        subst hlq
        simp only [List.mem_cons, List.not_mem_nil, or_false] at ha
        rcases ha with rfl | rfl | rfl
        · exact enters_of Tryz.func77 (by kernel_rfl) rfl
        · exact enters_of Tryz.func78 (by kernel_rfl) rfl
        · exact enters_of Tryz.func79 (by kernel_rfl) rfl)
      (fun a ha U hU => by
        have HU := HT.mod0 hU
        have k0 := (hb0.mod M13).mod hU
        have k1 := (hb1.mod M13).mod hU
        have k2 := (hb2.mod M13).mod hU
        have k3 := (hn1.mod M23).mod hU
        have k4 := (hn2.mod M3).mod hU
        have kd := HU.node d hdm
        subst hlq
        simp only [List.mem_cons, List.not_mem_nil, or_false] at ha
        rcases ha with rfl | rfl | rfl
        · exact (pX1 k1).mono fun e w' he => ⟨he.1, he.2 ▸ Mod.refl _ _⟩
        · exact (pX2 k4 k2 kd (hwf.ok d hdm).perm).mono fun e w' he => ⟨he.1, he.2 ▸ Mod.refl _ _⟩
        · exact pX3 HU hwf hnm k0 k3)
    rw [hlq, hfe] at hF
    have H1 := H0.mod0 M1
    have d0 : W1.cell? ⟨w.heap.size, 0, none⟩ = some (.pointer (some ⟨b, 0, none⟩)) := (hb0.mod M1).cell
    have d3 : W1.cell? ⟨w.heap.size + 3, 0, none⟩ = some (.pointer (some ⟨am n.path, 0, none⟩)) := hn1.cell
    have dm := H1.c0
    have dp : W1.cell? ⟨am n.path, 13, none⟩ = some (.int .u64 n.parent) := (cell_of (H1.node n hnm) 13).trans rfl
    have hlk := par_look H1 hwf hnm hd
    have K0 := Lib.hid (hb0.mod M13)
    have K1 := Lib.hid (hb1.mod M13)
    have K2 := Lib.hid (hb2.mod M13)
    have K4 := Lib.hid (hn2.mod M3)
    have HM := Lib.hid M
    have HT := Lib.hid HT
    have Hh := Lib.hid h
    have HWF := Lib.hid hwf
    have HNm := Lib.hid hnm
    have HL := Lib.hid hl
    have HD := Lib.hid hd
    have HDm := Lib.hid hdm
    have HDp := Lib.hid hdp
    clear hb0 hb1 hb2 hn1 hn2 H0 H1 h hask M0 M1 M2 M3 M23 M13 M hwf e1 hno hfe hnm hl hd hpd hdm hdp
    clear hlq l
    unfold ptr at hW3
    go_enter Tryz.func32, Tryz.ntmps32
    go_wp2_with fail
    clear hW0
    refine hG.mono ?_
    rintro e w1 ⟨rfl, rfl⟩
    go_upto_region 4 with (fail)
    clear hW1
    refine wp_region_held_drew (S := fun w' => Hid (Mod (fun _ => False) W1 w')) (by kernel_rfl) (Lib.hid (Mod.refl (fun _ => False) W1).drew) (fun hHeld => ?_)
    refine hT 0 rfl (fun wH hSw => by have cH := keepN hSw.out d0; clear hSw; go_simp; all_goals with_reducible rfl) ?_
    try simp only [gA, gB, gC, Act.put, sA, sB, sC]
    refine hT 1 rfl (fun _ _ => by go_simp; all_goals with_reducible rfl) ?_
    try simp only [gA, gB, gC, Act.put, sA, sB, sC]
    refine hT 2 rfl (fun _ _ => by go_simp; all_goals with_reducible rfl) ?_
    try simp only [gA, gB, gC, Act.put, sA, sB, sC]
    refine hT 3 rfl (fun wH hSw => by have cH := keepN hSw.out dm; clear hSw; go_simp; all_goals with_reducible rfl) ?_
    try simp only [gA, gB, gC, Act.put, sA, sB, sC]
    refine hT 4 rfl (fun wH hSw => by have cH := keepN hSw.out d3; clear hSw; go_simp; all_goals with_reducible rfl) ?_
    try simp only [gA, gB, gC, Act.put, sA, sB, sC]
    refine hT 5 rfl (fun _ _ => by go_simp; all_goals with_reducible rfl) ?_
    try simp only [gA, gB, gC, Act.put, sA, sB, sC]
    refine hT 6 rfl (fun _ _ => by go_simp; all_goals with_reducible rfl) ?_
    try simp only [gA, gB, gC, Act.put, sA, sB, sC]
    refine hT 7 rfl (fun wH hSw => by have cH := keepN hSw.out dp; clear hSw; go_simp; all_goals with_reducible rfl) ?_
    try simp only [gA, gB, gC, Act.put, sA, sB, sC]
    refine hT 8 rfl (fun wH hSw => by have cH := hlk wH hSw.out; clear hSw; go_simp; all_goals with_reducible rfl) ?_
    try simp only [gA, gB, gC, Act.put, sA, sB, sC]
    refine hR1 9 rfl fun K hK => ?_
    go_simp
    have mA := hHeld.out.alloc (.cells #[.pointer none] 75)
    refine hK.out _ _ (Lib.hid (mA)) ?_; clear hK K hHeld; intro hHeld
    try simp only [gA, gB, gC, Act.put, sA, sB, sC]
    refine hR1 10 rfl fun K hK => ?_
    go_simp
    have mB : Mod (fun _ => False) W1 W2 := by rw [← hW2]; exact ((Mod.refl (fun _ => False) W1).alloc _).drew
    refine hK.out _ _ (Lib.hid (mB)) ?_; clear hK K hHeld; intro hHeld
    try simp only [gA, gB, gC, Act.put, sA, sB, sC]
    refine wpAnyH_done (by kernel_rfl) ?_ _
    clear hHeld hW2 d0 d3 dm dp hlk mA mB c0 c1 hG
    go_wp2_with fail
    clear hW3
    refine hF.mono ?_
    rintro e V ⟨rfl, mV⟩
    clear hF hsz hsz1 hsz2
    have MV0 : Hid (Mod (fun _ => False) w V) := HM.out.trans mV
    have c0 : V.cell? ⟨w.heap.size, 0, none⟩ = some (.pointer (some ⟨b, 0, none⟩)) := (K0.out.mod mV).cell
    have c1 : V.cell? ⟨w.heap.size + 1, 0, none⟩ = some (.int .u64 n.path) := (K1.out.mod mV).cell
    have c2 : V.cell? ⟨w.heap.size + 1 + 1, 0, none⟩ = some (.string who) := (K2.out.mod mV).cell
    have c4 : V.cell? ⟨w.heap.size + 4, 0, none⟩ = some (.pointer (some ⟨am d.path, 0, none⟩)) := (K4.out.mod mV).cell
    have HT5 := Lib.hid (HT.out.mod0 mV)
    clear HT K0 K1 K2 K4 HM mV
    by_cases he : removeE T n who = 0
    · have t3 : (removeE T n who != 0) = false := by simp [he]
      obtain ⟨h1, _, h3⟩ := removeE_zero (fun x => x he)
      have HV : Hid (removeT T n.path who now = (removeT' T n who now, 0)) := by
        show _ = _
        unfold removeT; rw [HL.out]
        exact if_neg (fun x => x he)
      clear he
      have hpar : n.parent ≠ n.path := by have := HWF.out.up n HNm.out h1; omega
      obtain ⟨X, hdel, HX, mX⟩ := (HT5.out.mod0 (Mod.refl (fun _ => False) V).drew).erase HWF.out.rise HL.out hp
      have hbl : b < w.heap.size := lt_of Hh.out.obj
      have hml : mb < w.heap.size := Hh.out.map.lt
      have hbm : b ≠ mb := fun e => by have := Hh.out.rb; rw [e, Hh.out.rm] at this; cases this
      have dm := HT5.out.c0
      have e1 := keepX mX (by omega) (show V.drew.cell? _ = _ from c1)
      have e2 := keepX mX (by omega) (show V.drew.cell? _ = _ from c2)
      have e4 := keepX mX (by omega) (show V.drew.cell? _ = _ from c4)
      have hl2 : look (T.L.filter fun m => decide (m.path ≠ n.path)) n.parent = some d := by rw [look_filter hpar]; exact HD.out
      have hd2 : d ∈ (T.L.filter fun m => decide (m.path ≠ n.path)) := (look_some hl2).1
      have hrise : (T.L.filter fun m => decide (m.path ≠ n.path)).Pairwise fun a b => a.path < b.path := HWF.out.rise.filter _
      have hown := HX.kid d hd2
      have hcnt := HWF.out.one n HNm.out h1 d HD.out
      obtain ⟨hfi, hmap⟩ := map_set hcnt
      obtain ⟨kg, kc, hv⟩ : ∃ kg kc, vk d.path = .slice (some ⟨kg, 0, none⟩) d.kids.length kc := by
        rcases hown.2 with ⟨_, h0⟩ | ⟨kg, kc, hv, _⟩
        · omega
        · exact ⟨kg, kc, hv⟩
      have c15 : X.cell? ⟨am d.path, 15, none⟩ = some (.slice (some ⟨kg, 0, none⟩) d.kids.length kc) := by rw [← hv]; exact (cell_of (HX.node d hd2) 15).trans rfl
      have hkr : ρ kg = .row d.path := HX.rk d hd2 kg (by rw [hv]; rfl)
      have hkl : kg < w.heap.size := Hh.out.lt kg (by rw [hkr]; exact fun x => by cases x)
      have hal : am d.path < w.heap.size := lt_of (Hh.out.node d HDm.out)
      have hak : am d.path ≠ kg := fun e => by have := HX.rn d hd2; rw [e, hkr] at this; cases this
      have hmX0 : Mod (fun _ => False) X X.drew := (Mod.refl _ X).drew
      have hI := index_any (P := fun _ => True) (vk d.path) d.kids n.path X.drew ((hown.slAt.mod hmX0 (fun _ _ _ x => x)).imp fun _ _ => trivial) (by have := (HWF.out.ok d HDm.out).kl; omega)
      unfold idxI at hI
      rw [if_pos hfi] at hI
      rw [hv] at hI hown
      obtain ⟨hcap, _, hcl, hfr⟩ := own_cap hown
      obtain ⟨fi, hfie⟩ : ∃ fi, fiI d.kids n.path = fi := ⟨_, rfl⟩
      rw [hfie] at hfi hmap hI
      have ck : X.cell? ⟨kg, fi, none⟩ = some (.int .u64 d.kids[fi]) := hcl fi _ (by unfold kidsV; rw [List.getElem?_map, List.getElem?_eq_getElem hfi]; rfl)
      have fk : X.frozen? ⟨kg, fi, none⟩ = false := hfr fi (by omega)
      obtain ⟨HY, mY⟩ := (HX.mod0 hmX0).setKid (T := { T with L := T.L.filter fun m => decide (m.path ≠ n.path) }) hrise (by show look _ n.parent = _; exact hl2) (p := n.parent) (x := 0) (by rw [← HDp.out]; exact hv) hfi
      obtain ⟨Y, hY⟩ : ∃ Y, X.drew.setCell ⟨kg, fi, none⟩ (.int .u64 0) = Y := ⟨_, rfl⟩
      have hY' : X.drew.setCell ⟨kg, fi, none⟩ (.int .u64 ((0 : Nat) : Int)) = Y := hY
      rw [hY'] at HY mY
      have mXY : Mod (· = kg) X Y := by rw [← hY]; exact ((Mod.refl _ X).drew).trans (Mod.set1 _ _ _ _)
      have hNY : Y.heap[am d.path]? = some (pnO d (vk d.path)) := (mXY.block _ (lt_of (HX.node d hd2)) hak).trans (HX.node d hd2)
      have hTo := ptouch_any (am d.path) d (vk d.path) who now Y hNY (HWF.out.ok d HDm.out).ver
      have g2 := keepX mXY (by omega) e2
      have g4 := keepX mXY (by omega) e4
      have HY := Lib.hid HY
      have HX := Lib.hid HX
      have MX := Lib.hid mX
      have MXY := Lib.hid mXY
      have HMap := Lib.hid hmap
      have HRise := Lib.hid hrise
      have HKr := Lib.hid hkr
      have HL2 := Lib.hid hl2
      have i1 : (0 : Int) ≤ (fi : Int) := by omega
      have i2 : (fi : Int) < (d.kids.length : Int) := by omega
      have i3 : (d.kids.length : Int) ≤ (kc : Int) := by omega
      clear hown hcl hfr hcnt hmap hd2 hl2 hrise hv h1 h3 hpar mX mXY mY hY' hNY hmX0 hfie hkr
      generalize d.kids[fi] = kv at *
      go_upto_region 8 with (fail)
      refine wp_region_held_drew (S := fun w' => Hid (Mod (· = mb) V w')) (by kernel_rfl) (Lib.hid (Mod.refl (· = mb) V).drew) (fun hHeld => ?_)
      refine hT 0 rfl (fun wH hSw => by have cH := keepX hSw.out (by omega) c0; clear hSw; go_simp; all_goals with_reducible rfl) ?_
      try simp only [gA, gB, gC, Act.put, sA, sB, sC]
      refine hT 1 rfl (fun _ _ => by go_simp; all_goals with_reducible rfl) ?_
      try simp only [gA, gB, gC, Act.put, sA, sB, sC]
      refine hT 2 rfl (fun _ _ => by go_simp; all_goals with_reducible rfl) ?_
      try simp only [gA, gB, gC, Act.put, sA, sB, sC]
      refine hT 3 rfl (fun wH hSw => by have cH := keepX hSw.out (by omega) dm; clear hSw; go_simp; all_goals with_reducible rfl) ?_
      try simp only [gA, gB, gC, Act.put, sA, sB, sC]
      refine hT 4 rfl (fun wH hSw => by have cH := keepX hSw.out (by omega) c1; clear hSw; go_simp; all_goals with_reducible rfl) ?_
      try simp only [gA, gB, gC, Act.put, sA, sB, sC]
      refine hR1 5 rfl fun K hK => ?_
      go_simp
      have mD : Mod (· = mb) V X := ((Mod.refl _ V).drew).trans MX.out
      refine hK.out _ _ (Lib.hid (mD)) ?_; clear hK K hHeld; intro hHeld
      try simp only [gA, gB, gC, Act.put, sA, sB, sC]
      refine wpAnyH_done (by kernel_rfl) ?_ _
      clear hHeld hdel c0 c1 c2 c4 dm mD
      go_upto_region 9 with (fail)
      refine wp_region_held_drew (S := fun w' => Hid (Mod (· = kg) X w')) (by kernel_rfl) (Lib.hid (Mod.refl (· = kg) X).drew) (fun hHeld => ?_)
      refine hT 0 rfl (fun wH hSw => by have cH := keepX hSw.out (by omega) e4; clear hSw; go_simp; all_goals with_reducible rfl) ?_
      try simp only [gA, gB, gC, Act.put, sA, sB, sC]
      refine hT 1 rfl (fun _ _ => by go_simp; all_goals with_reducible rfl) ?_
      try simp only [gA, gB, gC, Act.put, sA, sB, sC]
      refine hT 2 rfl (fun _ _ => by go_simp; all_goals with_reducible rfl) ?_
      try simp only [gA, gB, gC, Act.put, sA, sB, sC]
      refine hT 3 rfl (fun wH hSw => by have cH := keepX hSw.out (by omega) c15; clear hSw; go_simp; all_goals with_reducible rfl) ?_
      try simp only [gA, gB, gC, Act.put, sA, sB, sC]
      refine hT 4 rfl (fun wH hSw => by have cH := keepX hSw.out (by omega) e4; clear hSw; go_simp; all_goals with_reducible rfl) ?_
      try simp only [gA, gB, gC, Act.put, sA, sB, sC]
      refine hT 5 rfl (fun _ _ => by go_simp; all_goals with_reducible rfl) ?_
      try simp only [gA, gB, gC, Act.put, sA, sB, sC]
      refine hT 6 rfl (fun _ _ => by go_simp; all_goals with_reducible rfl) ?_
      try simp only [gA, gB, gC, Act.put, sA, sB, sC]
      refine hT 7 rfl (fun wH hSw => by have cH := keepX hSw.out (by omega) c15; clear hSw; go_simp; all_goals with_reducible rfl) ?_
      try simp only [gA, gB, gC, Act.put, sA, sB, sC]
      refine hT 8 rfl (fun wH hSw => by have cH := keepX hSw.out (by omega) e1; clear hSw; go_simp; all_goals with_reducible rfl) ?_
      try simp only [gA, gB, gC, Act.put, sA, sB, sC]
      refine hR1 9 rfl fun K hK => ?_
      go_simp
      refine hI.mono ?_
      rintro e w4 ⟨rfl, rfl⟩
      refine hK.out _ _ (Lib.hid (hHeld.out)) ?_; clear hK K hHeld; intro hHeld
      try simp only [gA, gB, gC, Act.put, sA, sB, sC]
      refine hT 10 rfl (fun _ _ => by go_simp; all_goals with_reducible rfl) ?_
      try simp only [gA, gB, gC, Act.put, sA, sB, sC]
      refine hR1 11 rfl fun K hK => ?_
      go_simp
      refine hK.out _ _ (Lib.hid (MXY.out)) ?_; clear hK K hHeld; intro hHeld
      try simp only [gA, gB, gC, Act.put, sA, sB, sC]
      refine wpAnyH_done (by kernel_rfl) ?_ _
      clear hHeld hI e1 e2 e4 c15
      go_wp2_with fail
      refine hTo.mono ?_
      rintro e Z ⟨rfl, hNZ, mZ⟩
      have hlk2 : look (updN (T.L.filter fun m => decide (m.path ≠ n.path)) n.parent fun n => { n with kids := n.kids.set fi 0 }) n.parent = some { d with kids := d.kids.set fi 0 } := by
        rw [upd_get (f := fun n : Nd => { n with kids := n.kids.set fi 0 }) (fun _ => rfl), HL2.out]
        exact congrArg some (if_pos HDp.out)
      have hrise2 : (updN (T.L.filter fun m => decide (m.path ≠ n.path)) n.parent fun n => { n with kids := n.kids.set fi 0 }).Pairwise fun a b => a.path < b.path := by
        unfold updN
        rw [List.pairwise_map]
        refine HRise.out.imp fun hab => ?_
        have e1 : ∀ m : Nd, (if m.path = n.parent then { m with kids := m.kids.set fi 0 } else m).path = m.path := fun m => by split <;> rfl
        rw [e1, e1]; exact hab
      obtain ⟨HP, HMf⟩ := HY.out.setN (T := { T with L := updN (T.L.filter fun m => decide (m.path ≠ n.path)) n.parent fun n => { n with kids := n.kids.set fi 0 } }) hrise2 (p := n.parent) (f := fun m => m.touch who now) (fun _ => rfl) (fun _ => rfl) hlk2 (by rw [← HDp.out]; exact mZ) (by rw [← HDp.out]; exact hNZ)
      have hTT : removeT' T n who now = { T with L := updN (updN (T.L.filter fun m => decide (m.path ≠ n.path)) n.parent fun n => { n with kids := n.kids.set fi 0 }) n.parent fun m => m.touch who now } := by
        unfold removeT'
        rw [upd_upd (f := fun n : Nd => { n with kids := n.kids.set fi 0 }) (fun _ => rfl)]
        congr 1
        refine upd_congr fun m hm hmp => ?_
        have e1 : m = d := look_one HRise.out HL2.out hm hmp
        subst e1
        show Nd.touch { m with kids := _ } who now = Nd.touch { m with kids := _ } who now
        rw [HMap.out]
      have HP := Lib.hid HP
      have HTT := Lib.hid hTT
      have HMf : Hid (Mod (Foot ρ) w Z) := by
        have m1 : Mod (Foot ρ) V X := (((Mod.refl (· = mb) V).drew).trans MX.out).mono fun k _ e => by show ρ k ≠ .none; rw [e, Hh.out.rm]; exact fun x => by cases x
        have m2 : Mod (Foot ρ) X Y := MXY.out.mono fun k _ e => by
          show ρ k ≠ .none; rw [e, HKr.out]; exact fun x => by cases x
        exact (((MV0.out.mono fun _ _ x => x.elim).trans m1).trans m2).trans HMf
      clear hTo hNZ mZ hlk2 hrise2 hTT
      go_wp2
      go_ret
      exact ⟨by rw [HV.out]; rfl, by rw [HV.out, HTT.out]; exact HP.out, HMf.out⟩
    · have t3 : (removeE T n who != 0) = true := by simp [he]
      have HV : Hid (removeT T n.path who now = (T, removeE T n who)) := by show _ = _; unfold removeT; rw [HL.out]; exact if_pos he
      clear he
      go_wp2
      go_ret
      exact ⟨by rw [HV.out]; rfl, by rw [HV.out]; exact Hh.out.mod0 MV0.out, MV0.out.mono fun _ _ x => x.elim⟩
end Go.Proofs.YtkcnbbjmkkaolaaGreatDoor
namespace Go.Proofs.YtkcnbbjmkkaolaaGreatDoor
open Go.RowKit

section
variable {w w' : World} {ρ : Nat → Role} {b mb cnt : Nat} {T : Tr} {am : Nat → Nat} {vk : Nat → Value}
/-- a new file behind all others -/
theorem PTreeP.push (h : PTreeP w ρ b mb cnt T am vk) (hc : cnt < 1000000) {nd : Nd} {q a : Nat} (hq : nd.path = q) (hq64 : q < 18446744073709551616) (hnone : look T.L q = none) (hk : nd.kids = []) {w2 : World} (hm : Mod (fun _ => False) w w2) (ha : w.heap.size ≤ a) (hn : w2.heap[a]? = some (pnO nd (.slice none 0 0))) :
    ∃ w3, (Instr.mapUpdate 79 (.map (some mb)) (.int .u64 q) (.pointer (some ⟨a, 0, none⟩))).run Tryz.prog w2 = .ok () w3 ∧
      PTreeP w3 (setR ρ (some a) (.node q)) b mb (cnt + 1) { T with L := T.L ++ [nd] } (setA am q a) (setW vk q (.slice none 0 0)) ∧ Mod (· = mb) w2 w3 ∧ GrowsF w (Foot ρ) (Foot (setR ρ (some a) (.node q))) := by
  have h2 := h.mod0 hm
  obtain ⟨w3, hr, hM, hm3⟩ := h2.map.store encU64_inj lawM Tryz.underlying79 (by unfold maxLen; omega) (v := .pointer (some ⟨a, 0, none⟩)) (key_u64 Tryz.underlying33 hq64)
  have hra : ρ a = .none := by
    cases e : ρ a with
    | none => rfl
    | _ => exfalso; have := h.lt a (by rw [e]; exact fun x => by cases x); omega
  have hR : ∀ k, k < w.heap.size → setR ρ (some a) (.node q) k = ρ k := fun k hk' => by unfold setR; rw [if_neg (fun e => by injection e with e; omega)]
  have hsz := hm.size
  have hal : a < w2.heap.size := lt_of hn
  have hmb : mb < w.heap.size := h.map.lt
  have hne : ∀ k, k < w.heap.size → ρ k ≠ .map → k ≠ mb := fun k _ hk' e => hk' (by rw [e]; exact h.rm)
  have hpath : ∀ m ∈ T.L, m.path ≠ q := fun m hm' e => by
    unfold look at hnone
    rw [List.find?_eq_none] at hnone
    exact hnone m hm' (by simpa using e)
  have hA : ∀ m ∈ T.L, setA am q a m.path = am m.path := fun m hm' => if_neg (hpath m hm')
  have hW : ∀ m ∈ T.L, setW vk q (.slice none 0 0) m.path = vk m.path := fun m hm' => if_neg (hpath m hm')
  have hAq : setA am q a nd.path = a := if_pos hq
  have hWq : setW vk q (.slice none 0 0) nd.path = .slice none 0 0 := if_pos hq
  have hmem : ∀ {m : Nd}, m ∈ T.L ++ [nd] → m ∈ T.L ∨ m = nd := fun {m} hm' => by
    rcases List.mem_append.1 hm' with x | x
    · exact .inl x
    · exact .inr (List.mem_singleton.1 x)
  refine ⟨w3, hr, ⟨?_, ?_, fun m hm' => ?_, fun m hm' => ?_, ?_, ?_, fun m hm' => ?_, fun m hm' k hk' => ?_, fun k hk' => ?_⟩, hm3, ?_⟩
  · exact (hm3.block b (lt_of h2.obj) (hne b (lt_of h.obj) (by rw [h.rb]; exact fun x => by cases x))).trans h2.obj
  · refine hM.congr (fun y => ?_) ?_
    · unfold fN
      show Option.map _ (look (T.L ++ [nd]) y) = _
      rw [look_app]
      by_cases e : y = q
      · subst e
        rw [hnone, if_pos rfl]
        show Option.map _ (if nd.path = y then some nd else none) = _
        rw [if_pos hq]
        show some (Value.pointer (some ⟨setA am y a y, 0, none⟩)) = _
        rw [show setA am y a y = a from if_pos rfl]
      · rw [if_neg e]
        have e2 : setA am q a y = am y := if_neg e
        rw [e2]
        cases look T.L y with
        | some m => rfl
        | none =>
          show Option.map _ (if nd.path = y then some nd else none) = _
          rw [if_neg (fun x => e (by rw [← x, hq]))]
          try rfl
    · have hs : (fN T.L am q).isSome = false := by unfold fN; rw [hnone]; rfl
      rw [if_neg (by rw [hs]; exact Bool.false_ne_true)]
      show (T.L ++ [nd]).length = _
      rw [List.length_append, List.length_singleton]
  · rcases hmem hm' with x | x
    · rw [hA m x, hW m x]
      exact (hm3.block _ (lt_of (h2.node m x)) (hne _ (lt_of (h.node m x)) (by rw [h.rn m x]; exact fun y => by cases y))).trans (h2.node m x)
    · subst x
      rw [hAq, hWq]
      exact (hm3.block _ hal (by omega)).trans hn
  · rcases hmem hm' with x | x
    · rw [hW m x]
      exact (h2.kid m x).modB hm3 fun k hk' e => by have := h.rk m x k hk'; rw [e, h.rm] at this; cases this
    · subst x
      rw [hWq, hk]
      exact OwnA.nil _ _ _
  · rw [hR b (lt_of h.obj)]; exact h.rb
  · rw [hR mb hmb]; exact h.rm
  · rcases hmem hm' with x | x
    · rw [hA m x, hR _ (lt_of (h.node m x))]; exact h.rn m x
    · subst x
      rw [hAq, hq]
      unfold setR; rw [if_pos rfl]
  · rcases hmem hm' with x | x
    · rw [hW m x] at hk'
      rw [hR k ((h.kid m x).lt k hk').2]
      exact h.rk m x k hk'
    · subst x
      rw [hWq] at hk'
      simp [Value.ownBlock] at hk'
  · by_cases e : k = a
    · rw [e]; exact Nat.lt_of_lt_of_le hal hm3.size
    · unfold setR at hk'
      rw [if_neg (fun x => e (by injection x))] at hk'
      exact Nat.lt_of_lt_of_le (h.lt k hk') (Nat.le_trans hsz hm3.size)
  · exact foot_grows fun k hk' => by injection hk' with hk'; subst hk'; exact .inr ha
end
theorem upd_idn {L : List Nd} {p : Nat} {f : Nd → Nd} (h : ∀ n ∈ L, n.path = p → f n = n) : updN L p f = L := by
  unfold updN
  conv => rhs; rw [← List.map_id L]
  refine List.map_congr_left fun n hn => ?_
  split
  · rename_i e; rw [h n hn e]; rfl
  · rfl
theorem upd_app {L M : List Nd} {p : Nat} {f : Nd → Nd} : updN (L ++ M) p f = updN L p f ++ updN M p f := by unfold updN; rw [List.map_append]
set_option maxRecDepth 100000 in
set_option maxHeartbeats 1000000 in
theorem pC4 {w : World} {Bp Bm Bd perm m : Nat} {isD : Bool} (hp : BoxA w Bp (.int .u32 perm) 22) (hm : BoxA w Bm (.int .u8 m) 5) (hd : BoxA w Bd (.bool isD) 4) (hp32 : perm < 4294967296) (hml : m < 256) :
    Calls Tryz.prog 58 #[ptr Bp, ptr Bm, ptr Bd] w fun e w' => e = .returned (.bool (decide (perm &&& 2147483136 ≠ 0) || !modeB m || (isD && decide (m ≠ 0)))) ∧ w = w' := by
  have c0 := hp.cell
  have c1 := hm.cell
  have c2 := hd.cell
  have zA : bits .andNot .u32 (perm : Int) 2147484159 = ((perm &&& 2147483136 : Nat) : Int) := u32_andNot_nat perm 2147484159 hp32 (by decide)
  have hM := mmode_any m w hml
  have HE : Hid (decide (m ≠ 0) = ((m : Int) != 0)) := by show _ = _; rw [Bool.eq_iff_iff]; simp
  clear hp hm hd hp32 hml
  unfold ptr at *
  generalize perm &&& 2147483136 = q at *
  by_cases hq : q = 0
  · have t1 : ((q : Int) != 0) = false := by simp [hq]
    rw [show decide (q ≠ 0) = false by simp [hq]]
    clear hq
    cases hb : modeB m with
    | false =>
      rw [hb] at hM
      clear hb
      go_enter Tryz.func58, Tryz.ntmps58
      go_wp2_with fail
      refine hM.mono ?_
      rintro e w1 ⟨rfl, rfl⟩
      go_wp2
      go_ret
      exact ⟨rfl, rfl⟩
    | true =>
      rw [hb] at hM
      clear hb
      cases isD with
      | false =>
        go_enter Tryz.func58, Tryz.ntmps58
        go_wp2_with fail
        refine hM.mono ?_
        rintro e w1 ⟨rfl, rfl⟩
        go_wp2
        go_ret
        exact ⟨rfl, rfl⟩
      | true =>
        go_enter Tryz.func58, Tryz.ntmps58
        go_wp2_with fail
        refine hM.mono ?_
        rintro e w1 ⟨rfl, rfl⟩
        go_wp2
        go_ret
        exact ⟨by rw [HE.out]; rfl, rfl⟩
  · have t1 : ((q : Int) != 0) = true := by simp [hq]
    rw [show decide (q ≠ 0) = true by simp [hq]]
    clear hq
    go_enter Tryz.func58, Tryz.ntmps58
    go_wp2
    go_ret
    exact ⟨rfl, rfl⟩
theorem createE_first (T : Tr) (d : Nd) (name : ByteArray) (perm m : Nat) (who : ByteArray) (f1 f2 f3 f4 f5 f6 : Nat) (c1 c2 c3 c4 c5 c6 : Array Value) :
    firstE [⟨f1, c1, 181, !d.dir⟩, ⟨f2, c2, 182, !mayB d who 2⟩, ⟨f3, c3, 183, !nameOk name || !userOk who⟩, ⟨f4, c4, 186, decide (perm &&& 2147483136 ≠ 0) || !modeB m || (decide (2147483648 ≤ perm) && decide (m ≠ 0))⟩, ⟨f5, c5, 184, (kidOf T.L d name).isSome⟩, ⟨f6, c6, 6, decide (1024 ≤ T.L.length) || decide (112 ≤ cntOf d)⟩] = createE T d name perm m who := by
  unfold createE
  simp only [firstE_cons]
  refine ite_iff (by simp) (ite_iff (by simp) (ite_iff (by simp) (ite_iff (by simp [or_assoc]) (ite_iff ?_ (ite_iff (by simp) rfl)))))
  cases kidOf T.L d name <;> simp
end Go.Proofs.YtkcnbbjmkkaolaaGreatDoor
namespace Go.Proofs.YtkcnbbjmkkaolaaGreatDoor
open Go.RowKit Go.Shelf Go.Lib Go.Sort

abbrev Fl : Type := St × Nat × ByteArray
instance : Inhabited Fl := ⟨(St.none, 0, ByteArray.empty)⟩
def cfF (x y : Fl) : Int := if x.1.qp < y.1.qp then -1 else 1
theorem ltF (x y : Fl) : ltOf cfF x y = decide (x.1.qp < y.1.qp) := by
  unfold ltOf cfF
  by_cases h : x.1.qp < y.1.qp <;> simp [h]
theorem swoF : SWO (ltOf cfF) where
  irrefl x := by rw [ltF]; simp
  trans x y z h1 h2 := by rw [ltF] at *; simp at *; omega
  ntrans x y z h1 h2 := by rw [ltF] at *; simp at *; omega
def RiseF (l : List Fl) : Prop := l.Pairwise fun a b => a.1.qp < b.1.qp
theorem riseF_ext {l m : List Fl} (hl : RiseF l) (hm : RiseF m) (h : ∀ p, p ∈ l ↔ p ∈ m) : l = m := by
  unfold RiseF at *
  induction l generalizing m with
  | nil =>
    cases m with
    | nil => rfl
    | cons b m => exact absurd ((h b).2 (List.mem_cons_self ..)) (by simp)
  | cons a l ih =>
    cases m with
    | nil => exact absurd ((h a).1 (List.mem_cons_self ..)) (by simp)
    | cons b m =>
      obtain ⟨ha, hl'⟩ := List.pairwise_cons.1 hl
      obtain ⟨hb, hm'⟩ := List.pairwise_cons.1 hm
      have hab : a = b := by
        rcases List.mem_cons.1 ((h a).1 (List.mem_cons_self ..)) with e | e
        · exact e
        · rcases List.mem_cons.1 ((h b).2 (List.mem_cons_self ..)) with e2 | e2
          · exact e2.symm
          · have := hb a e; have := ha b e2; omega
      subst hab
      congr 1
      refine ih hl' hm' fun p => ?_
      have hp := h p
      simp only [List.mem_cons] at hp
      constructor
      · intro hpl
        rcases hp.1 (Or.inr hpl) with e | e
        · subst e; have := ha p hpl; omega
        · exact e
      · intro hpm
        rcases hp.2 (Or.inr hpm) with e | e
        · subst e; have := hb p hpm; omega
        · exact e
set_option maxHeartbeats 2000000 in
set_option maxRecDepth 100000 in
theorem cmpF_any (x y : Fl) (W : World) : Calls Tryz.prog 49 #[.agg (flC x).toArray, .agg (flC y).toArray] W fun e w' => e = .returned (.int .i64 (cfF x y)) ∧ ∃ q os', w' = grow (W.drewN q) os' := by
  obtain ⟨sx, px, bx⟩ := x
  obtain ⟨sy, py, bY⟩ := y
  by_cases h : sx.qp < sy.qp
  · have HV : Hid (cfF (sx, px, bx) (sy, py, bY) = -1) := if_pos h
    have t1 : decide ((sx.qp : Int) < (sy.qp : Int)) = true := by simp [h]
    have t1' : decide (sx.qp < sy.qp) = true := by simp [h]
    clear h
    unfold flC St.cells
    go_enter Tryz.func49, Tryz.ntmps49
    go_wp2
    go_ret
    exact ⟨by rw [HV.out]; rfl, 0, _, by rw [alloc_eq_grow, alloc_eq_grow, grow_grow]; rfl⟩
  · have HV : Hid (cfF (sx, px, bx) (sy, py, bY) = 1) := if_neg h
    have t1 : decide ((sx.qp : Int) < (sy.qp : Int)) = false := by simp; omega
    have t1' : decide (sx.qp < sy.qp) = false := by simp; omega
    clear h
    unfold flC St.cells
    go_enter Tryz.func49, Tryz.ntmps49
    go_wp2
    go_ret
    exact ⟨by rw [HV.out]; rfl, 0, _, by rw [alloc_eq_grow, alloc_eq_grow, grow_grow]; rfl⟩
theorem cmpLaysF (blk off size : Nat) (w : World) : CmpLays Tryz.prog 49 #[] flC 15 cfF blk off size w := fun _ _ _ _ x y => cmpF_any x y _
abbrev FlAt (w : World) (P : Nat → Prop) (v : Value) (l : List Fl) : Prop := RecsAt flC 15 w P v l
theorem flatK_at (es : List Fl) {j i : Nat} {s : Fl} (hj : es[j]? = some s) (hi : i < 15) : j *  15 + i < (flatK flC  15 es.toArray).size ∧ (flC s)[i]? = some (flatK flC  15 es.toArray)[j *  15 + i]! := by
  obtain ⟨hlt, hs⟩ := List.getElem?_eq_some_iff.1 hj
  have hb : j *  15 + i < es.toArray.size *  15 := by rw [List.size_toArray]; omega
  refine ⟨by rw [size_flatK]; exact hb, ?_⟩
  rw [get_flatK _ _ _ _ hb, show (j *  15 + i) /  15 = j by omega, show (j *  15 + i) %  15 = i by omega]
  have e1 : es.toArray[j]! = s := by rw [getElem!_pos _ j (by rw [List.size_toArray]; exact hlt), List.getElem_toArray, hs]
  rw [e1, List.getElem?_eq_getElem (by rw [fl_len]; exact hi), getElem!_pos _ i (by rw [fl_len]; exact hi)]
theorem holds_of {w : World} {g : Nat} {es : List Fl} (hc : ∀ j s, es[j]? = some s → ∀ i u, (flC s)[i]? = some u → w.cell? ⟨g, j *  15 + i, none⟩ = some u) (hf : ∀ j, j < es.length *  15 → w.frozen? ⟨g, j, none⟩ = false) : HoldsK flC  15 w g 0 es.toArray := by
  intro t ht
  rw [size_flatK, List.size_toArray] at ht
  obtain ⟨s, hs⟩ : ∃ s, es[t / 15]? = some s := ⟨_, List.getElem?_eq_getElem (by omega)⟩
  obtain ⟨_, h2⟩ := flatK_at es hs (i := t % 15) (by omega)
  have h3 := hc _ _ hs _ _ h2
  rw [show t /  15 *  15 + t %  15 = t by omega] at h3
  rw [Nat.zero_add]
  exact ⟨h3, hf t ht⟩
theorem holds_get {w : World} {g : Nat} {d : Array Fl} (h : HoldsK flC  15 w g 0 d) : ∀ j s, d.toList[j]? = some s → ∀ i u, (flC s)[i]? = some u → w.cell? ⟨g, 0 + j *  15 + i, none⟩ = some u := by
  intro j s hj i u hu
  have hi : i <  15 := by have := (List.getElem?_eq_some_iff.1 hu).1; rw [fl_len] at this; exact this
  obtain ⟨h1, h2⟩ := flatK_at d.toList hj hi
  rw [Array.toArray_toList] at h1 h2
  have h3 := (h _ h1).1
  rw [hu] at h2
  injection h2 with h2
  rw [Nat.zero_add] at h3 ⊢
  rw [h2]
  exact h3
theorem mod_sortWorld {w : World} {g n : Nat} {d : Array Fl} {os : Array Obj} : Mod (· = g) w (sortWorldK flC  15 w g 0 n d os) := by
  have h1 : Mod (· = g) w (putRowK flC  15 (Sort.ahead w n) g 0 d) := by
    refine ⟨rfl, rfl, rfl, ?_, fun k hk hne => ?_⟩
    · show w.heap.size ≤ (w.heap.modify g _).size
      rw [Array.size_modify]; exact Nat.le_refl _
    · show (w.heap.modify g _)[k]? = _
      rw [Array.getElem?_modify, if_neg (fun e => hne e.symm)]
  refine h1.trans ⟨rfl, rfl, rfl, ?_, fun k hk _ => heap_grow_old _ _ hk⟩
  show _ ≤ (_ ++ os).size
  rw [Array.size_append]; omega
theorem sortedF {d : Array Fl} (hs : SortedIn (ltOf cfF) 0 d.size d) (hn : d.toList.Pairwise fun p q => p.1.qp ≠ q.1.qp) : RiseF d.toList := by
  unfold RiseF
  rw [List.pairwise_iff_getElem] at hn ⊢
  intro i j hi hj hij
  have h1 := hs i j (Nat.zero_le _) hij (by simpa using hj)
  rw [ltF, decide_eq_false_iff_not, getElem!_pos _ j (by simpa using hj), getElem!_pos _ i (by simpa using hi)] at h1
  have h2 := hn i j hi hj hij
  simp only [Array.getElem_toList] at h2 ⊢
  omega
set_option maxHeartbeats 1000000 in
/-- the sort of a row of our own -/
theorem sortF_any (es : List Fl) (W : World) (B g cap : Nat) (h : OwnA W B  15 (.slice (some ⟨g, 0, none⟩) es.length cap) es.length (flatR flC es)) (hn : es.Pairwise fun p q => p.1.qp ≠ q.1.qp) (hl : es.length ≤ 1000000) :
    Calls Tryz.prog 48 #[.slice (some ⟨g, 0, none⟩) es.length cap, .func (.func 49) #[] #[]] W fun e w' =>
      e = .returned (.tuple #[]) ∧ ∃ m : List Fl, m.Perm es ∧ RiseF m ∧ FlAt w' (B ≤ ·) (.slice (some ⟨g, 0, none⟩) es.length cap) m ∧ Mod (· = g) W w' := by
  have eg : ∀ args w, (callFunc 49 args).run Tryz.prog w = .ok (.enter 49 args) w := enters_of Tryz.func49 (by kernel_rfl) rfl
  rcases h.2 with ⟨e, _⟩ | ⟨g', cap', e, hB, hg, hcap, _, hf, hc⟩
  · cases e
  injection e with e1 e2 e3
  injection e1 with e1
  injection e1 with e1
  subst e1 e3
  have hH : HoldsK flC  15 W g 0 es.toArray := holds_of (fun j s hj i u hu => hc _ u (by
    have hi : i <  15 := by have := (List.getElem?_eq_some_iff.1 hu).1; rw [fl_len] at this; exact this
    rw [flatR_get fl_len es j s hj i hi]; exact hu)) (fun j hj => hf j (by have := Nat.mul_le_mul_right  15 hcap; omega))
  have hcon := AnyQ.slices_SortFunc Tryz.sortFile  15 Tryz.isAgg50 Tryz.sizeOf50 flC fl_len fl_one cfF swoF 49 #[] g 0 cap es.toArray W eg (cmpLaysF g 0 es.toArray.size W) hH hg (by rw [List.size_toArray]; omega)
  rw [List.size_toArray] at hcon
  refine Calls.mono hcon ?_
  rintro e w' ⟨rfl, d', n, os, hp, hs, rfl⟩
  obtain ⟨hsz0, _, hperm⟩ := hp
  have hsz : d'.size = es.length := by simpa using hsz0
  have hperm2 : d'.toList.Perm es := by
    have e1 : d'.extract 0 es.length = d' := by rw [← hsz]; simp
    have e2 : es.toArray.extract 0 es.length = es.toArray := by rw [← List.size_toArray]; simp
    rw [e1, e2] at hperm
    exact hperm
  have hlen : d'.toList.length = es.length := hperm2.length_eq
  refine ⟨rfl, d'.toList, hperm2, sortedF (by rw [hsz]; exact hs) (hperm2.symm.pairwise hn fun {a b} h => h.symm), ?_, mod_sortWorld⟩
  refine .inr ⟨g, 0, cap, by rw [hlen], hB, Nat.lt_of_lt_of_le hg (mod_sortWorld (w := W) (g := g) (n := n) (d := d') (os := os)).size, by rw [hlen]; exact hcap, ?_⟩
  exact holds_get (holdsK_sortWorldK flC  15 W g 0 n es.toArray d' os hg hH (by rw [hsz, List.size_toArray]))
end Go.Proofs.YtkcnbbjmkkaolaaGreatDoor
namespace Go.Proofs.YtkcnbbjmkkaolaaGreatDoor
open Go.RowKit

def eqQ (p q : Qi) : Bool := p.t == q.t && (p.v == q.v && p.p == q.p)
theorem eqQ_self (p : Qi) : eqQ p p = true := by simp [eqQ]
set_option maxHeartbeats 1000000 in
theorem equal_runQ (s t : Qi) (w : World) : (Op.equalIn 10000 35 (.agg (qiC s).toArray) (.agg (qiC t).toArray)).run Tryz.prog w = .ok (eqQ s t) w := by
  have ht2 : Tryz.prog.underlying 35 = some (.struct (Tryz.prog.fieldsOf 35)) := by kernel_rfl
  have hp2 : Tryz.prog.stoodInHeld 35 = false := by kernel_rfl
  unfold qiC
  rw [show (10000 : Nat) = 9999 + 1 from rfl, run_equalIn_agg w 9999 _ _ _ ht2 hp2]
  simp [go_sem, Op.eqFields]
  simp only [if_ok]
  simp only [eqQ, Nat.beq_eq_decide, Int.natCast_inj, Bool.and_assoc, Bool.and_true]
theorem eqlQ_any (s t : Qi) (w : World) : (binOp .eql 35 (.agg (qiC s).toArray) (.agg (qiC t).toArray)).run Tryz.prog w = .ok (.bool (eqQ s t)) w := by
  rw [run_eql_struct, show (Op.equalIn 10000 35 (.agg (qiC s).toArray) (.agg (qiC t).toArray)).run Tryz.prog w = _ from equal_runQ s t w]
  rfl
set_option maxHeartbeats 2000000 in
theorem equal_runF (f : Fl) (w : World) : (Op.equalIn 10000 50 (.agg (flC f).toArray) (.agg (flC f).toArray)).run Tryz.prog w = .ok true w := by
  have ht0 : Tryz.prog.underlying 50 = some (.struct (Tryz.prog.fieldsOf 50)) := by kernel_rfl
  have hp0 : Tryz.prog.stoodInHeld 50 = false := by kernel_rfl
  have ht : Tryz.prog.underlying 37 = some (.struct (Tryz.prog.fieldsOf 37)) := by kernel_rfl
  have hp : Tryz.prog.stoodInHeld 37 = false := by kernel_rfl
  have ht2 : Tryz.prog.underlying 35 = some (.struct (Tryz.prog.fieldsOf 35)) := by kernel_rfl
  have hp2 : Tryz.prog.stoodInHeld 35 = false := by kernel_rfl
  unfold flC St.cells
  rw [show (10000 : Nat) = 9999 + 1 from rfl, run_equalIn_agg w 9999 _ _ _ ht0 hp0]
  simp [go_sem, Op.eqFields]
theorem neqF_any (f : Fl) (w : World) : (binOp .neq 50 (.agg (flC f).toArray) (.agg (flC f).toArray)).run Tryz.prog w = .ok (.bool false) w := by
  rw [run_neq_struct, show (Op.equalIn 10000 50 (.agg (flC f).toArray) (.agg (flC f).toArray)).run Tryz.prog w = _ from equal_runF f w]
  rfl
/-- an element of a row, in a later world -/
theorem rec_rng {α : Type} {cs : α → List Value} {w wr : World} {g o : Nat} {s : α} (hg : g < w.heap.size) (hc : ∀ i u, (cs s)[i]? = some u → w.cell? ⟨g, o + i, none⟩ = some u) (hm : Mod (fun _ => False) w wr) : wr.rangeAt g o (cs s) := fun i u hu =>
  (World.cell?_of_block (a := ⟨g, o + i, none⟩) (hm.block g hg (fun x => x))).trans (hc i u hu)
set_option maxRecDepth 100000 in
set_option maxHeartbeats 2000000 in
theorem files_any (v1 v2 : Value) (l : List Fl) (w : World) (h1 : FlAt w (fun _ => True) v1 l) (h2 : FlAt w (fun _ => True) v2 l) (hlen : l.length ≤ 140737488355328) :
    Calls Tryz.prog 17 #[v1, v2] w fun e w' => e = .returned (.bool true) ∧ Mod (fun _ => False) w w' := by
  obtain ⟨a1, cap1, rfl, hcap1, hx1⟩ := h1.form
  obtain ⟨a2, cap2, rfl, hcap2, hx2⟩ := h2.form
  have t0 : ((l.length : Int) != (l.length : Int)) = false := by simp
  go_enter Tryz.func17, Tryz.ntmps17
  go_wp2
  go_loopw [4, 5] (fun _ i wr => ∃ (k : Nat), k ≤ l.length ∧ i = .int .i64 k ∧ Hid (Mod (fun _ => False) w wr)) (fun _ i _ => l.length - (intOf i).toNat)
  case atStart => exact ⟨0, by omega, rfl, Mod.refl _ _⟩
  case round =>
    obtain ⟨k, hk, rfl, HM⟩ := hrel
    by_cases hlt : k < l.length
    · obtain ⟨g1, o1, rfl, _, hg1, hc1⟩ := hx1 k l[k] (List.getElem?_eq_getElem hlt)
      obtain ⟨g2, o2, rfl, _, hg2, hc2⟩ := hx2 k l[k] (List.getElem?_eq_getElem hlt)
      generalize l[k] = s at *
      have t1 : decide ((k : Int) < (l.length : Int)) = true := by simp; omega
      have t1' : decide (k < l.length) = true := by simp; omega
      have hr1 : ∀ U, Mod (fun _ => False) w U → U.rangeAt g1 (o1 + k * 15) (flC s) := fun U hU => rec_rng hg1 hc1 hU
      have hr2 : ∀ U, Mod (fun _ => False) w U → U.rangeAt g2 (o2 + k * 15) (flC s) := fun U hU => rec_rng hg2 hc2 hU
      have hne := neqF_any s
      have hfl := fl_len s
      have i1 : (0 : Int) ≤ (k : Int) := by omega
      have i2 : (k : Int) < (l.length : Int) := by omega
      have i3 : (l.length : Int) ≤ (cap1 : Int) := by omega
      have i4 : (l.length : Int) ≤ (cap2 : Int) := by omega
      clear hc1 hc2
      go_upto_region 6 with (fail)
      refine wp_region_held_drew (S := fun w' => Hid (Mod (fun _ => False) w w')) (by kernel_rfl) (Lib.hid HM.out.drew) (fun hHeld => ?_)
      refine hT 0 rfl (fun _ _ => by go_simp; all_goals with_reducible rfl) ?_
      try simp only [gA, gB, gC, Act.put, sA, sB, sC]
      refine hT 1 rfl (fun _ _ => by go_simp; all_goals with_reducible rfl) ?_
      try simp only [gA, gB, gC, Act.put, sA, sB, sC]
      refine hT 2 rfl (fun _ _ => by go_simp; all_goals with_reducible rfl) ?_
      try simp only [gA, gB, gC, Act.put, sA, sB, sC]
      refine hTy 3 rfl (by kernel_rfl) (fun _ _ _ h => h) (by assumption) (yieldsIf_load_mid (by rfl) 50 (.tmp 19) rfl g1 (o1 + k * 15) rfl (flC s) _ (fun wH hSw => hr1 wH hSw.out) Tryz.underlying50 rfl (by kernel_rfl)) ?_
      try simp only [gA, gB, gC, Act.put, sA, sB, sC]
      refine hT 4 rfl (fun _ _ => by go_simp; all_goals with_reducible rfl) ?_
      try simp only [gA, gB, gC, Act.put, sA, sB, sC]
      refine hT 5 rfl (fun _ _ => by go_simp; all_goals with_reducible rfl) ?_
      try simp only [gA, gB, gC, Act.put, sA, sB, sC]
      refine hT 6 rfl (fun _ _ => by go_simp; all_goals with_reducible rfl) ?_
      try simp only [gA, gB, gC, Act.put, sA, sB, sC]
      refine hTy 7 rfl (by kernel_rfl) (fun _ _ _ h => h) (by assumption) (yieldsIf_load_mid (by rfl) 50 (.tmp 23) rfl g2 (o2 + k * 15) rfl (flC s) _ (fun wH hSw => hr2 wH hSw.out) Tryz.underlying50 rfl (by kernel_rfl)) ?_
      try simp only [gA, gB, gC, Act.put, sA, sB, sC]
      refine hT 8 rfl (fun _ _ => by go_simp; all_goals with_reducible rfl) ?_
      try simp only [gA, gB, gC, Act.put, sA, sB, sC]
      refine wpAnyH_done (by kernel_rfl) ?_ _
      go_wp2
      go_roundw
      case rel => exact ⟨k + 1, hlt, by go_num, hHeld.out⟩
      case measure => simp [intOf]; omega
    · obtain rfl : k = l.length := by omega
      have t1 : decide ((l.length : Int) < (l.length : Int)) = false := by simp
      have t1' : decide (l.length < l.length) = false := by simp
      go_wp2
      go_ret
      exact ⟨rfl, HM.out⟩
set_option maxRecDepth 100000 in
set_option maxHeartbeats 2000000 in
theorem stats_any (v1 v2 : Value) (l m : List St) (w : World) (h1 : RecsAt St.cells 13 w (fun _ => True) v1 l) (h2 : RecsAt St.cells 13 w (fun _ => True) v2 m) (hl : l.length ≤ 1000000) (hl2 : m.length ≤ 1000000) :
    Calls Tryz.prog 43 #[v1, v2] w fun e w' => ∃ v, e = .returned (.bool v) ∧ (l = m → v = true) ∧ Mod (fun _ => False) w w' := by
  obtain ⟨a1, cap1, rfl, hcap1, hx1⟩ := h1.form
  obtain ⟨a2, cap2, rfl, hcap2, hx2⟩ := h2.form
  by_cases hlm : l.length = m.length
  case neg =>
    have t0 : ((l.length : Int) != (m.length : Int)) = true := by simp; omega
    have t0' : (l.length != m.length) = true := by simpa using hlm
    have HV : Hid (l = m → False) := fun e => hlm (by rw [e])
    clear hlm
    go_enter Tryz.func43, Tryz.ntmps43
    go_wp2
    go_ret
    exact ⟨false, rfl, fun e => (HV.out e).elim, Mod.refl _ _⟩
  rw [← hlm] at hcap2
  have t0 : ((l.length : Int) != (l.length : Int)) = false := by simp
  have HLM := Lib.hid hlm
  rw [← hlm]
  clear hlm
  go_enter Tryz.func43, Tryz.ntmps43
  go_wp2
  go_loopw [4, 5] (fun _ i wr => ∃ (k : Nat), k ≤ l.length ∧ i = .int .i64 k ∧ Hid (Mod (fun _ => False) w wr)) (fun _ i _ => l.length - (intOf i).toNat)
  case atStart => exact ⟨0, by omega, rfl, Mod.refl _ _⟩
  case round =>
    obtain ⟨k, hk, rfl, HM⟩ := hrel
    by_cases hlt : k < l.length
    · have hlt2 : k < m.length := by have := HLM.out; omega
      obtain ⟨g1, o1, rfl, _, hg1, hc1⟩ := hx1 k l[k] (List.getElem?_eq_getElem hlt)
      obtain ⟨g2, o2, rfl, _, hg2, hc2⟩ := hx2 k m[k] (List.getElem?_eq_getElem hlt2)
      have HEQ : Hid (l = m → l[k] = m[k]) := fun e => by subst e; rfl
      generalize l[k] = s at *
      generalize m[k] = s2 at *
      have t1 : decide ((k : Int) < (l.length : Int)) = true := by simp; omega
      have t1' : decide (k < l.length) = true := by simp; omega
      have hr1 : ∀ U, Mod (fun _ => False) w U → U.rangeAt g1 (o1 + k * 13) s.cells := fun U hU => rec_rng hg1 hc1 hU
      have hr2 : ∀ U, Mod (fun _ => False) w U → U.rangeAt g2 (o2 + k * 13) s2.cells := fun U hU => rec_rng hg2 hc2 hU
      have hne : ∀ U, (binOp .neq 37 (.agg s.cells.toArray) (.agg s2.cells.toArray)).run Tryz.prog U = .ok (.bool (!eqS s s2)) U := fun U => neq_any s s2 U
      have HES : Hid (l = m → eqS s s2 = true) := fun e => (eqS_iff s s2).2 (HEQ.out e)
      have hfl := st_len s
      have hfl2 := st_len s2
      have i1 : (0 : Int) ≤ (k : Int) := by omega
      have i2 : (k : Int) < (l.length : Int) := by omega
      have i3 : (l.length : Int) ≤ (cap1 : Int) := by omega
      have i4 : (l.length : Int) ≤ (cap2 : Int) := by omega
      clear hc1 hc2 HEQ
      generalize eqS s s2 = bs at *
      cases bs with
      | true =>
        go_upto_region 6 with (fail)
        refine wp_region_held_drew (S := fun w' => Hid (Mod (fun _ => False) w w')) (by kernel_rfl) (Lib.hid HM.out.drew) (fun hHeld => ?_)
        refine hT 0 rfl (fun _ _ => by go_simp; all_goals with_reducible rfl) ?_
        try simp only [gA, gB, gC, Act.put, sA, sB, sC]
        refine hT 1 rfl (fun _ _ => by go_simp; all_goals with_reducible rfl) ?_
        try simp only [gA, gB, gC, Act.put, sA, sB, sC]
        refine hT 2 rfl (fun _ _ => by go_simp; all_goals with_reducible rfl) ?_
        try simp only [gA, gB, gC, Act.put, sA, sB, sC]
        refine hTy 3 rfl (by kernel_rfl) (fun _ _ _ h => h) (by assumption) (yieldsIf_load_mid (by rfl) 37 (.tmp 19) rfl g1 (o1 + k * 13) rfl s.cells _ (fun wH hSw => hr1 wH hSw.out) Tryz.underlying37 rfl (by kernel_rfl)) ?_
        try simp only [gA, gB, gC, Act.put, sA, sB, sC]
        refine hT 4 rfl (fun _ _ => by go_simp; all_goals with_reducible rfl) ?_
        try simp only [gA, gB, gC, Act.put, sA, sB, sC]
        refine hT 5 rfl (fun _ _ => by go_simp; all_goals with_reducible rfl) ?_
        try simp only [gA, gB, gC, Act.put, sA, sB, sC]
        refine hT 6 rfl (fun _ _ => by go_simp; all_goals with_reducible rfl) ?_
        try simp only [gA, gB, gC, Act.put, sA, sB, sC]
        refine hTy 7 rfl (by kernel_rfl) (fun _ _ _ h => h) (by assumption) (yieldsIf_load_mid (by rfl) 37 (.tmp 23) rfl g2 (o2 + k * 13) rfl s2.cells _ (fun wH hSw => hr2 wH hSw.out) Tryz.underlying37 rfl (by kernel_rfl)) ?_
        try simp only [gA, gB, gC, Act.put, sA, sB, sC]
        refine hT 8 rfl (fun _ _ => by go_simp; all_goals with_reducible rfl) ?_
        try simp only [gA, gB, gC, Act.put, sA, sB, sC]
        refine wpAnyH_done (by kernel_rfl) ?_ _
        go_wp2
        go_roundw
        case rel => exact ⟨k + 1, hlt, by go_num, hHeld.out⟩
        case measure => simp [intOf]; omega
      | false =>
        have HV : Hid (l = m → False) := fun e => by have := HES.out e; cases this
        go_upto_region 6 with (fail)
        refine wp_region_held_drew (S := fun w' => Hid (Mod (fun _ => False) w w')) (by kernel_rfl) (Lib.hid HM.out.drew) (fun hHeld => ?_)
        refine hT 0 rfl (fun _ _ => by go_simp; all_goals with_reducible rfl) ?_
        try simp only [gA, gB, gC, Act.put, sA, sB, sC]
        refine hT 1 rfl (fun _ _ => by go_simp; all_goals with_reducible rfl) ?_
        try simp only [gA, gB, gC, Act.put, sA, sB, sC]
        refine hT 2 rfl (fun _ _ => by go_simp; all_goals with_reducible rfl) ?_
        try simp only [gA, gB, gC, Act.put, sA, sB, sC]
        refine hTy 3 rfl (by kernel_rfl) (fun _ _ _ h => h) (by assumption) (yieldsIf_load_mid (by rfl) 37 (.tmp 19) rfl g1 (o1 + k * 13) rfl s.cells _ (fun wH hSw => hr1 wH hSw.out) Tryz.underlying37 rfl (by kernel_rfl)) ?_
        try simp only [gA, gB, gC, Act.put, sA, sB, sC]
        refine hT 4 rfl (fun _ _ => by go_simp; all_goals with_reducible rfl) ?_
        try simp only [gA, gB, gC, Act.put, sA, sB, sC]
        refine hT 5 rfl (fun _ _ => by go_simp; all_goals with_reducible rfl) ?_
        try simp only [gA, gB, gC, Act.put, sA, sB, sC]
        refine hT 6 rfl (fun _ _ => by go_simp; all_goals with_reducible rfl) ?_
        try simp only [gA, gB, gC, Act.put, sA, sB, sC]
        refine hTy 7 rfl (by kernel_rfl) (fun _ _ _ h => h) (by assumption) (yieldsIf_load_mid (by rfl) 37 (.tmp 23) rfl g2 (o2 + k * 13) rfl s2.cells _ (fun wH hSw => hr2 wH hSw.out) Tryz.underlying37 rfl (by kernel_rfl)) ?_
        try simp only [gA, gB, gC, Act.put, sA, sB, sC]
        refine hT 8 rfl (fun _ _ => by go_simp; all_goals with_reducible rfl) ?_
        try simp only [gA, gB, gC, Act.put, sA, sB, sC]
        refine wpAnyH_done (by kernel_rfl) ?_ _
        go_wp2
        go_ret
        exact ⟨false, rfl, fun e => (HV.out e).elim, hHeld.out⟩
    · obtain rfl : k = l.length := by omega
      have t1 : decide ((l.length : Int) < (l.length : Int)) = false := by simp
      have t1' : decide (l.length < l.length) = false := by simp
      go_wp2
      go_ret
      exact ⟨true, rfl, fun _ => rfl, HM.out⟩
end Go.Proofs.YtkcnbbjmkkaolaaGreatDoor
