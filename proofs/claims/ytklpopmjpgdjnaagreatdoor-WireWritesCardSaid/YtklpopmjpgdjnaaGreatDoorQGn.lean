/- The document's alone: has a message only fields that its type has?
   The document's Encode, plain: it answers as package wire's. -/
import Derived.Test.YtklpopmjpgdjnaaGreatDoorQRefZ
import Derived.Test.YtklpopmjpgdjnaaGreatDoorQGg
set_option linter.unusedVariables false
set_option linter.unusedSimpArgs false
namespace Go.Proofs.YtklpopmjpgdjnaaGreatDoor
open Go.RowKit

def aloneM (m : Msg) : Bool := allF.all fun f => ((fieldsOf m.ty).getD []).contains f || zeroF m f
theorem isE (b : ByteArray) : b.toList.isEmpty = decide (b.size = 0) := empty_beq' b
set_option maxHeartbeats 2000000 in
theorem zero_clear (m : Msg) (f g : Fld) : zeroF (Fld.clear m g) f = (decide (f = g) || zeroF m f) := by
  have e0 : ByteArray.empty.toList.isEmpty = true := by rw [isE]; rfl
  have e1 : eqS St.zero St.zero = true := (eqS_iff _ _).2 rfl
  cases f <;> cases g <;> first | rfl | exact e0 | exact e1
theorem zero_clears (l : List Fld) : ∀ (m : Msg) (f : Fld), zeroF (l.foldl Fld.clear m) f = (l.contains f || zeroF m f) := by
  induction l with
  | nil => exact fun m f => rfl
  | cons g l ih =>
    intro m f
    rw [List.foldl_cons, ih, zero_clear, List.contains_cons]
    show (l.contains f || (decide (f = g) || zeroF m f)) = ((decide (f = g) || l.contains f) || zeroF m f)
    cases decide (f = g) <;> cases l.contains f <;> rfl
theorem empty_zero (m : Msg) : emptyM m = allF.all (zeroF m) := by
  rw [Bool.eq_iff_iff]
  unfold emptyM allF Msg.ors Msg.txts
  simp only [List.all_cons, List.all_nil, Bool.and_true, zeroF, isE, Bool.and_eq_true, decide_eq_true_eq, Nat.or_eq_zero_iff, ByteArray.size_append, beq_iff_eq]
  constructor
  · rintro ⟨⟨⟨⟨⟨⟨⟨⟨⟨⟨a1, a2⟩, a3⟩, a4⟩, a5⟩, a6⟩, a7⟩, a8⟩, a9⟩, a10⟩, h2, h3, ⟨h4, h5, h6⟩, h7⟩
    exact ⟨by omega, by omega, by omega, by omega, by omega, by omega, by omega, by omega, by omega, by omega, by omega, ⟨h4, h5, h6⟩, by omega, by omega, by omega, by omega, by omega, by omega, by omega, h7⟩
  · rintro ⟨a1, a2, a3, a4, a5, a6, a7, a8, a9, a10, a11, ⟨h4, h5, h6⟩, a12, a13, a14, a15, a16, a17, a18, h7⟩
    exact ⟨⟨⟨⟨⟨⟨⟨⟨⟨⟨by omega, by omega⟩, by omega⟩, by omega⟩, by omega⟩, by omega⟩, by omega⟩, by omega⟩, by omega⟩, by omega⟩, by omega, by omega, ⟨h4, h5, h6⟩, h7⟩
theorem alone_empty {m : Msg} {l : List Fld} (h : fieldsOf m.ty = some l) : aloneM m = emptyM (l.foldl Fld.clear m) := by
  rw [empty_zero]
  unfold aloneM
  rw [h]
  congr 1
  funext f
  exact (zero_clears l m f).symm
end Go.Proofs.YtklpopmjpgdjnaaGreatDoor
namespace Go.Proofs.YtklpopmjpgdjnaaGreatDoor

def refL (m : Msg) : List Fld → ByteArray → Option ByteArray
  | [], s => some s
  | f :: l, s => if (wfB m f).2 = false ∨ 8192 < s.size + (wfB m f).1.size then none else refL m l (s ++ (wfB m f).1)
def finR (m : Msg) : Option ByteArray → ByteArray × Int
  | none => (ByteArray.empty, 4)
  | some s => if 8192 < s.size + 7 then (ByteArray.empty, 4) else (bs (leBytes 4 (s.size + 7)) ++ bs (leBytes 1 m.ty) ++ bs (leBytes 2 m.tag) ++ s, 0)
def encR (m : Msg) : ByteArray × Int :=
  match fieldsOf m.ty with
  | none => (ByteArray.empty, 240)
  | some l =>
    if aloneM m = false then (ByteArray.empty, 2)
    else if plainM m = false then (ByteArray.empty, 241)
    else finR m (refL m l ByteArray.empty)
theorem wfB_ok {m : Msg} {f : Fld} (h : fldOk m f) : wfB m f = (bs (fldB m f), true) := by
  cases f
  case version => exact Prod.ext rfl (decide_eq_true h)
  case uname => exact Prod.ext rfl (decide_eq_true h)
  case aname => exact Prod.ext rfl (decide_eq_true h)
  case ename => exact Prod.ext rfl (decide_eq_true h)
  case name => exact Prod.ext rfl (decide_eq_true h)
  case names =>
    have h2 : (m.names.all fun s => decide (s.size ≤ 65535)) = true := List.all_eq_true.2 fun s hs => decide_eq_true (h.2 s hs)
    show (if _ then _ else _) = _
    rw [if_pos h2]
    exact Prod.ext rfl (decide_eq_true h.1)
  case qids =>
    have h1 : m.qids.length ≤ 16 := h
    show (bs (leBytes 2 m.qids.length ++ (m.qids.take 17).flatMap qdB), decide (m.qids.length ≤ 16)) = _
    rw [List.take_of_length_le (by omega), decide_eq_true h1]
    rfl
  case stat =>
    show (if _ then _ else _) = _
    rw [if_neg (fun x => x h.1)]
    exact Prod.ext rfl (decide_eq_true h.2)
  all_goals rfl
theorem wfB_not {m : Msg} {f : Fld} (h : ¬ fldOk m f) : (wfB m f).2 = false := by
  cases f
  case version => exact decide_eq_false h
  case uname => exact decide_eq_false h
  case aname => exact decide_eq_false h
  case ename => exact decide_eq_false h
  case name => exact decide_eq_false h
  case names =>
    show (if _ then _ else _ : ByteArray × Bool).2 = _
    split
    · rename_i h2
      exact decide_eq_false fun x => h ⟨x, fun s hs => of_decide_eq_true (List.all_eq_true.1 h2 s hs)⟩
    · rfl
  case qids => exact decide_eq_false h
  case stat =>
    show (if _ then _ else _ : ByteArray × Bool).2 = _
    split
    · rfl
    · rename_i h2
      exact decide_eq_false fun x => h ⟨Classical.not_not.1 h2, x⟩
  all_goals exact absurd trivial h
theorem flat_txt (l : List ByteArray) (h : ∀ s ∈ l, s.size ≤ 65535) : (l.flatMap txt).length ≤ 65537 * l.length := by
  induction l with
  | nil => exact Nat.zero_le _
  | cons a l ih =>
    have := ih fun s hs => h s (List.mem_cons_of_mem _ hs)
    have ha := h a List.mem_cons_self
    rw [List.flatMap_cons, List.length_append, List.length_cons, txt_length]
    omega
theorem flat_qd (l : List Qd) : (l.flatMap qdB).length = 13 * l.length := by
  induction l with
  | nil => rfl
  | cons a l ih => rw [List.flatMap_cons, List.length_append, List.length_cons, ih]; simp [qdB, qidL, leBytes_length]; omega
theorem wfB_size {m : Msg} (hs : m.Small) (f : Fld) : (wfB m f).1.size ≤ 100000000000 := by
  have hn := hs.nl
  cases f
  case version => show (bs _).size ≤ _; rw [bs_size, txt_length]; have := hs.version; omega
  case uname => show (bs _).size ≤ _; rw [bs_size, txt_length]; have := hs.uname; omega
  case aname => show (bs _).size ≤ _; rw [bs_size, txt_length]; have := hs.aname; omega
  case ename => show (bs _).size ≤ _; rw [bs_size, txt_length]; have := hs.ename; omega
  case name => show (bs _).size ≤ _; rw [bs_size, txt_length]; have := hs.name; omega
  case names =>
    show (if _ then _ else _ : ByteArray × Bool).1.size ≤ _
    split
    · rename_i h2
      have := flat_txt m.names fun s h => of_decide_eq_true (List.all_eq_true.1 h2 s h)
      show (bs _).size ≤ _
      rw [bs_size, List.length_append, leBytes_length]
      omega
    · exact Nat.zero_le _
  case qids =>
    show (bs _).size ≤ _
    rw [bs_size, List.length_append, leBytes_length, flat_qd, List.length_take]
    omega
  case stat =>
    have := encS_le m.stat
    show (if _ then _ else _ : ByteArray × Bool).1.size ≤ _
    split
    · exact Nat.zero_le _
    · show (bs _).size ≤ _
      rw [bs_size, List.length_append, leBytes_length]
      show 2 + (encS m.stat).1.size ≤ _
      omega
  case data =>
    have := hs.data
    show (bs _).size ≤ _
    rw [bs_size]
    show (leBytes 4 m.data.size ++ m.data.data.toList).length ≤ _
    rw [List.length_append, leBytes_length]
    show 4 + m.data.size ≤ _
    omega
  case qid => show (bs _).size ≤ _; rw [bs_size]; show (qidL _ _ _).length ≤ _; simp [qidL, leBytes_length]
  all_goals (show (bs (leBytes _ _)).size ≤ _; rw [bs_size, leBytes_length]; omega)
open Classical in
theorem refL_eq (m : Msg) (l : List Fld) : ∀ s : ByteArray, s.size ≤ 8192 → refL m l s = if (∀ f ∈ l, fldOk m f) ∧ s.size + (l.flatMap (fldB m)).length ≤ 8192 then some (s ++ bs (l.flatMap (fldB m))) else none := by
  classical
  induction l with
  | nil =>
    intro s hs
    rw [if_pos ⟨fun f h => (by cases h), hs⟩]
    show some s = some (s ++ bs [])
    rw [show bs [] = ByteArray.empty from rfl, ByteArray.append_empty]
  | cons f l ih =>
    intro s hs
    rw [List.flatMap_cons, List.length_append]
    show (if _ then _ else _) = _
    by_cases h : fldOk m f
    · rw [wfB_ok h, bs_size]
      by_cases h2 : 8192 < s.size + (fldB m f).length
      · rw [if_pos (Or.inr h2), if_neg (fun x => by omega)]
      · rw [if_neg (by rintro (x | x); exact absurd x (by simp); exact h2 x)]
        rw [ih _ (by rw [ByteArray.size_append, bs_size]; omega), ByteArray.size_append, bs_size, bs_cat, ← ByteArray.append_assoc]
        congr 1
        rw [List.forall_mem_cons, eq_iff_iff, Nat.add_assoc]
        exact ⟨fun x => ⟨⟨h, x.1⟩, x.2⟩, fun x => ⟨x.1.2, x.2⟩⟩
    · rw [if_pos (Or.inl (wfB_not h)), if_neg (fun x => h (x.1 f List.mem_cons_self))]
theorem encR_eq (m : Msg) : encR m = encM m := by
  classical
  unfold encR
  cases hf : fieldsOf m.ty with
  | none => unfold encM; rw [hf]
  | some l =>
    show (if _ then _ else _) = _
    rw [alone_empty hf]
    by_cases he : emptyM (l.foldl Fld.clear m) = false
    · rw [if_pos he]; unfold encM; rw [hf]; exact (if_pos he).symm
    rw [if_neg he]
    by_cases hp : plainM m = false
    · rw [if_pos hp]; unfold encM; rw [hf]; show _ = (if _ then _ else _); rw [if_neg he]; exact (if_pos hp).symm
    rw [if_neg hp, refL_eq m l _ (Nat.zero_le _)]
    have e0 : ByteArray.empty.size = 0 := rfl
    rw [e0, Nat.zero_add, ByteArray.empty_append]
    by_cases H : (∀ f ∈ l, fldOk m f) ∧ (l.flatMap (fldB m)).length + 7 ≤ 8192
    · rw [encM_is hf (by simpa using he) (by simpa using hp) H, if_pos ⟨H.1, by omega⟩]
      show (if _ then _ else _) = _
      rw [bs_size, if_neg (by omega), bs_cat, bs_cat, bs_cat]
    · have hr : encM m = (ByteArray.empty, 4) := by
        unfold encM
        rw [hf]
        show (if _ then _ else if _ then _ else if _ then _ else _) = _
        rw [if_neg he, if_neg hp, if_pos ((wr_all m l).2 H)]
      rw [hr]
      by_cases h2 : (∀ f ∈ l, fldOk m f) ∧ (l.flatMap (fldB m)).length ≤ 8192
      · rw [if_pos h2]
        show (if _ then _ else _) = _
        rw [if_pos]
        rw [bs_size]
        rcases Nat.lt_or_ge 8192 ((l.flatMap (fldB m)).length + 7) with x | x
        · exact x
        · exact absurd ⟨h2.1, x⟩ H
      · rw [if_neg h2]; rfl
end Go.Proofs.YtklpopmjpgdjnaaGreatDoor
