/- Directories, plain. -/
import Derived.Test.YtfkmfllhlhefdaaDoorPCode
import Derived.Test.YtfkmfllhlhefdaaDoorBase
import Derived.Lib.ValidU
namespace Go.Proofs.YtfkmfllhlhefdaaDoor

/-- a byte that no name has -/
def badB (b : UInt8) : Bool := decide (b.toNat < 32) || (decide (b.toNat = 127) || decide (b.toNat = 47))
def nameOk (s : ByteArray) : Bool := decide (0 < s.size ∧ s.size ≤ 55 ∧ s.data.toList ≠ [46] ∧ s.data.toList ≠ [46, 46]) && (Lib.validD s.data.toList && !(s.data.toList.any badB))
def zeros (n : Nat) : List UInt8 := List.replicate n 0
def freeB : ByteArray := bs (zeros 64)
def slotL (p : Nat) (n : ByteArray) : List UInt8 := leBytes 8 p ++ (leBytes 1 n.size ++ (n.data.toList ++ zeros (55 - n.size)))
def slotB (p : Nat) (n : ByteArray) : ByteArray := bs (slotL p n)
structure Ent where
  slot : Nat
  path : Nat
  name : ByteArray
def Ent.cells (e : Ent) : List Value := [.int .i64 e.slot, .int .u64 e.path, .string e.name]
def Ent.v (e : Ent) : Value := .agg e.cells.toArray
/-- what stands in a slot -/
def readP (x : ByteArray) : Nat := leNat (x.extract 0 8).data.toList
def readL (x : ByteArray) : Nat := leNat (x.extract 8 9).data.toList
def readN (x : ByteArray) : ByteArray := x.extract 9 (9 + min (readL x) 55)
def readOk (x : ByteArray) : Bool := decide (readP x ≠ 0) && (nameOk (readN x) && decide (x = slotB (readP x) (readN x)))
def slotAt (s : ByteArray) (i : Nat) : ByteArray := s.extract (i * 64) (i * 64 + 64)
/-- all of them, one behind the other -/
def slotsL (s : ByteArray) : List ByteArray := (List.range (s.size / 64)).map (slotAt s)
def hasN (l : List Ent) (n : ByteArray) : Bool := l.any fun e => decide (e.name = n)
def hasP (l : List Ent) (p : Nat) : Bool := l.any fun e => decide (e.path = p)
/-- one slot more -/
def stepE (x : ByteArray) (i : Nat) (l : List Ent) : Option (List Ent) :=
  if x = freeB then some l
  else if readOk x = true ∧ hasN l (readN x) = false ∧ hasP l (readP x) = false then some (l ++ [⟨i, readP x, readN x⟩]) else none
def goE : List ByteArray → Nat → List Ent → Option (List Ent)
  | [], _, l => some l
  | x :: r, i, l => match stepE x i l with
    | none => none
    | some l => goE r (i + 1) l
def sizeOk (s : ByteArray) : Bool := decide (s.size % 64 = 0 ∧ s.size ≤ 7168)
def listS (s : ByteArray) : Option (List Ent) := if sizeOk s then goE (slotsL s) 0 [] else none
/-- the first slot that is free, else behind all -/
def freeAt (s : ByteArray) : Nat := (slotsL s).findIdx fun x => decide (x = freeB)
def findE (l : List Ent) (n : ByteArray) : Option Ent := l.find? fun e => decide (e.name = n)
def findS (s : ByteArray) (n : ByteArray) : Int × Nat := match findE ((listS s).getD []) n with
  | some e => (e.slot, e.path)
  | none => (-1, 0)
def withS (s : ByteArray) (at_ : Nat) (x : ByteArray) : ByteArray := if s.size ≤ at_ * 64 then s ++ x else s.extract 0 (at_ * 64) ++ x ++ s.extract (at_ * 64 + 64) s.size
def putS (s n : ByteArray) (p : Nat) : ByteArray × Nat × Int := match listS s with
  | none => (ByteArray.empty, 0, 51)
  | some l => if nameOk n = false then (ByteArray.empty, 0, 183)
    else if p = 0 ∨ hasP l p = true then (ByteArray.empty, 0, 2)
    else if hasN l n = true then (ByteArray.empty, 0, 184)
    else if 112 ≤ freeAt s then (ByteArray.empty, 0, 6)
    else (withS s (freeAt s) (slotB p n), freeAt s, 0)
def dropS (s n : ByteArray) : ByteArray × Nat × Int := match listS s with
  | none => (ByteArray.empty, 0, 51)
  | some l => match findE l n with
    | none => (ByteArray.empty, 0, 5)
    | some e => (withS s e.slot freeB, e.slot, 0)
def renS (s o n : ByteArray) : ByteArray × Nat × Int := match listS s with
  | none => (ByteArray.empty, 0, 51)
  | some l => match findE l o with
    | none => (ByteArray.empty, 0, 5)
    | some e => if nameOk n = false then (ByteArray.empty, 0, 183)
      else match findE l n with
        | some e2 => if e2.slot = e.slot then (withS s e.slot (slotB e.path n), e.slot, 0) else (ByteArray.empty, 0, 184)
        | none => (withS s e.slot (slotB e.path n), e.slot, 0)
theorem zeros_length (n : Nat) : (zeros n).length = n := List.length_replicate ..
theorem freeB_size : freeB.size = 64 := by rw [freeB, bs_size, zeros_length]
theorem slotB_size {p : Nat} {n : ByteArray} (h : n.size ≤ 55) : (slotB p n).size = 64 := by
  rw [slotB, bs_size, slotL]
  simp only [List.length_append, leBytes_length, zeros_length, Array.length_toList]
  show 8 + (1 + (n.size + (55 - n.size))) = 64
  omega
theorem slotAt_size {s : ByteArray} {i : Nat} (h : i < s.size / 64) : (slotAt s i).size = 64 := by
  rw [slotAt, ByteArray.size_extract]; omega
theorem slotsL_length (s : ByteArray) : (slotsL s).length = s.size / 64 := by rw [slotsL, List.length_map, List.length_range]
theorem slotsL_get {s : ByteArray} {i : Nat} (h : i < (slotsL s).length) : (slotsL s)[i] = slotAt s i := by
  simp only [slotsL, List.getElem_map, List.getElem_range]
theorem readN_size (x : ByteArray) : (readN x).size ≤ 55 := by rw [readN, ByteArray.size_extract]; omega
theorem nameOk_size {s : ByteArray} (h : nameOk s = true) : 0 < s.size ∧ s.size ≤ 55 := by
  unfold nameOk at h
  simp only [Bool.and_eq_true, decide_eq_true_eq] at h
  exact ⟨h.1.1, h.1.2.1⟩
end Go.Proofs.YtfkmfllhlhefdaaDoor
