/- A row of messages cut off what comes, plain. -/
import Derived.Test.YtklpopmjpgdjnaaGreatDoorQGg
import Derived.Test.YtklpopmjpgdjnaaGreatDoorQGi
set_option linter.unusedVariables false
set_option linter.unusedSimpArgs false
namespace Go.Proofs.YtklpopmjpgdjnaaGreatDoor

/-- a whole message's bytes -/
def Frame (f : ByteArray) : Prop := 7 ≤ f.size ∧ f.size ≤ 8192 ∧ ∃ r, f.data.toList = leBytes 4 f.size ++ r
/-- what is written of a message, if it may be -/
def encO (m : Msg) : Option ByteArray := if (encM m).2 = 0 then some (encM m).1 else none
def frames (L : List Msg) : List ByteArray := L.filterMap encO
def catF (l : List ByteArray) : List UInt8 := l.flatMap (·.data.toList)
theorem encM_frame {m : Msg} (h : (encM m).2 = 0) : Frame (encM m).1 := by
  obtain ⟨l, _, _, _, _, hl, hE⟩ := encM_ok h
  rw [hE]
  have hs : (bs (leBytes 4 ((l.flatMap (fldB m)).length + 7) ++ leBytes 1 m.ty ++ leBytes 2 m.tag ++ l.flatMap (fldB m))).size = (l.flatMap (fldB m)).length + 7 := by
    rw [bs_size]
    simp only [List.length_append, leBytes_length]
    omega
  refine ⟨by show 7 ≤ (bs _).size; rw [hs]; omega, by show (bs _).size ≤ 8192; rw [hs]; omega, leBytes 1 m.ty ++ (leBytes 2 m.tag ++ l.flatMap (fldB m)), ?_⟩
  show (bs _).data.toList = leBytes 4 (bs _).size ++ _
  rw [hs]
  simp [bs]
theorem frames_ok {L : List Msg} {f : ByteArray} (h : f ∈ frames L) : Frame f := by
  obtain ⟨m, _, hm⟩ := List.mem_filterMap.1 h
  unfold encO at hm
  split at hm
  · rename_i h0
    injection hm with hm
    rw [← hm]
    exact encM_frame h0
  · cases hm
theorem frames_take {L : List Msg} {j : Nat} {m : Msg} (h : L[j]? = some m) : frames (L.take (j + 1)) = frames (L.take j) ++ (encO m).toList := by
  obtain ⟨hj, rfl⟩ := List.getElem?_eq_some_iff.1 h
  rw [List.take_succ_eq_append_getElem hj]
  unfold frames
  rw [List.filterMap_append, List.filterMap_cons]
  cases encO L[j] <;> rfl
theorem frames_len (L : List Msg) : (frames L).length ≤ L.length := List.length_filterMap_le _ _
theorem catF_append (a b : List ByteArray) : catF (a ++ b) = catF a ++ catF b := List.flatMap_append
theorem catF_one (f : ByteArray) : catF [f] = f.data.toList := by simp [catF]
theorem catF_cons (f : ByteArray) (r : List ByteArray) : catF (f :: r) = f.data.toList ++ catF r := rfl
theorem catF_len {l : List ByteArray} (h : ∀ f ∈ l, f.size ≤ 8192) : (catF l).length ≤ l.length * 8192 := by
  induction l with
  | nil => exact Nat.zero_le _
  | cons a l ih =>
    rw [catF_cons, List.length_append, bsize, List.length_cons, Nat.succ_mul]
    have h1 := h a (List.mem_cons_self ..)
    have h2 := ih (fun f hf => h f (List.mem_cons_of_mem _ hf))
    omega
theorem bytes_eq {a b : ByteArray} (h : a.data.toList = b.data.toList) : a = b := ByteArray.ext (Array.toList_inj.1 h)
/-- what is held of a row of messages is cut -/
theorem cut_step (held more : ByteArray) (fs : List ByteArray) (tail : List UInt8) (hf : ∀ f ∈ fs, Frame f) (hm : more.size ≤ 3) (h : held.data.toList ++ tail = catF fs ++ more.data.toList) :
    (cutM held 8192 = (ByteArray.empty, held, 0) ∧ (tail = [] → fs = [])) ∨ ∃ f r held', fs = f :: r ∧ Frame f ∧ cutM held 8192 = (f, held', 0) ∧ held'.data.toList ++ tail = catF r ++ more.data.toList ∧ held'.size + f.size = held.size := by
  have hlen := congrArg List.length h
  simp only [List.length_append, bsize] at hlen
  have hC : cutM held 8192 = cutW (Rd.num ⟨held, 0, 0⟩ 4) held 8192 := rfl
  by_cases h4 : held.size < 4
  · left
    constructor
    · rw [hC]
      unfold cutW
      have : (Rd.num ⟨held, 0, 0⟩ 4).2.f ≠ 0 := by
        intro e
        have := (Rd.num_adv e).2.1
        have : 0 + 4 ≤ held.size := this
        omega
      rw [if_pos this]
    · intro ht
      subst ht
      cases fs with
      | nil => rfl
      | cons f r =>
        have := (hf f (List.mem_cons_self ..)).1
        rw [catF_cons, List.length_append, bsize] at hlen
        simp only [List.length_nil] at hlen
        omega
  · cases fs with
    | nil =>
      exfalso
      simp only [catF, List.flatMap_nil, List.length_nil] at hlen
      omega
    | cons f r =>
      obtain ⟨f7, f8, q, hq⟩ := hf f (List.mem_cons_self ..)
      rw [catF_cons, List.length_append, bsize] at hlen
      rw [catF_cons, hq] at h
      have hpre : held.data.toList = leBytes 4 f.size ++ held.data.toList.drop 4 := by
        have h2 := congrArg (List.take 4) h
        rw [List.take_append_of_le_length (by rw [bsize]; omega), List.append_assoc, List.append_assoc, List.take_left' (leBytes_length 4 _)] at h2
        have h3 := List.take_append_drop 4 held.data.toList
        rw [h2] at h3
        exact h3.symm
      have hA : AtSplit ⟨held, 0, 0⟩ (leBytes 4 f.size ++ held.data.toList.drop 4) := ⟨rfl, Nat.zero_le _, by show List.drop 0 held.data.toList = _; rw [List.drop_zero]; exact hpre⟩
      obtain ⟨e1, _⟩ := hA.num (show f.size < 4294967296 by omega)
      rw [e1] at hC
      have hW : cutM held 8192 = if held.size < f.size then (ByteArray.empty, held, 0) else (held.extract 0 f.size, held.extract f.size held.size, 0) := by
        rw [hC]
        unfold cutW
        simp only
        rw [if_neg (by simp), if_neg (by omega), if_neg (by omega)]
      by_cases hs : held.size < f.size
      · left
        rw [hW, if_pos hs]
        refine ⟨rfl, fun ht => ?_⟩
        subst ht
        simp only [List.length_nil] at hlen
        omega
      · right
        rw [if_neg hs] at hW
        have e2 : (held.extract 0 f.size).data.toList = held.data.toList.take f.size := by
          have := extract_take held 0 f.size
          rw [Nat.zero_add, List.drop_zero] at this
          exact this
        have e3 : (held.extract f.size held.size).data.toList = held.data.toList.drop f.size := by
          rw [show held.size = f.size + (held.size - f.size) by omega, extract_take, List.take_of_length_le]
          rw [List.length_drop, bsize]
          omega
        rw [← hq] at h
        have hT : held.data.toList.take f.size = f.data.toList := by
          have h2 := congrArg (List.take f.size) h
          rw [List.take_append_of_le_length (by rw [bsize]; omega), List.append_assoc, List.take_left' (bsize f)] at h2
          exact h2
        refine ⟨f, r, held.extract f.size held.size, rfl, ⟨f7, f8, q, hq⟩, ?_, ?_, ?_⟩
        · rw [hW, bytes_eq (e2.trans hT)]
        · rw [e3]
          have h2 := congrArg (List.drop f.size) h
          rw [List.drop_append_of_le_length (by rw [bsize]; omega), List.append_assoc, List.drop_left' (bsize f)] at h2
          exact h2
        · rw [← bsize, e3, List.length_drop, bsize]
          omega
end Go.Proofs.YtklpopmjpgdjnaaGreatDoor
