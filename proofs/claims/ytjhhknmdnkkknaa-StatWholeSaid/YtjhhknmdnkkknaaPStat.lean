/- A stat, plain, and its bytes. -/
import Derived.Test.YtjhhknmdnkkknaaPCode
import Derived.Test.YtjhhknmdnkkknaaBase
namespace Go.Proofs.Ytjhhknmdnkkknaa

structure St where
  ty : Nat
  dev : Nat
  qt : Nat
  qv : Nat
  qp : Nat
  mo : Nat
  at_ : Nat
  mt : Nat
  len : Nat
  n : ByteArray
  u : ByteArray
  g : ByteArray
  m : ByteArray
structure St.Ok (s : St) : Prop where
  ty : s.ty < 65536
  dev : s.dev < 4294967296
  qt : s.qt < 256
  qv : s.qv < 4294967296
  qp : s.qp < 18446744073709551616
  mo : s.mo < 4294967296
  at_ : s.at_ < 4294967296
  mt : s.mt < 4294967296
  len : s.len < 18446744073709551616
def St.cells (s : St) : List Value := [.int .u16 s.ty, .int .u32 s.dev, .int .u8 s.qt, .int .u32 s.qv, .int .u64 s.qp, .int .u32 s.mo, .int .u32 s.at_, .int .u32 s.mt, .int .u64 s.len, .string s.n, .string s.u, .string s.g, .string s.m]
def St.v (s : St) : Value := .agg s.cells.toArray
def qidL (t v p : Nat) : List UInt8 := leBytes 1 t ++ leBytes 4 v ++ leBytes 8 p
def txt (b : ByteArray) : List UInt8 := leBytes 2 b.size ++ b.data.toList
def St.nums (s : St) : List UInt8 := leBytes 2 s.ty ++ leBytes 4 s.dev ++ qidL s.qt s.qv s.qp ++ leBytes 4 s.mo ++ leBytes 4 s.at_ ++ leBytes 4 s.mt ++ leBytes 8 s.len
def St.body (s : St) : List UInt8 := s.nums ++ txt s.n ++ txt s.u ++ txt s.g ++ txt s.m
def St.tot (s : St) : Nat := 47 + s.n.size + s.u.size + s.g.size + s.m.size
theorem St.nums_length (s : St) : s.nums.length = 39 := by simp [St.nums, qidL, leBytes_length]
theorem txt_length (b : ByteArray) : (txt b).length = 2 + b.size := by simp [txt, leBytes_length]
theorem St.body_length (s : St) : s.body.length = s.tot := by
  simp only [St.body, List.length_append, St.nums_length, txt_length, St.tot]; omega
def encS (s : St) : ByteArray × Int := if 65535 < s.tot then (ByteArray.empty, 4) else (bs (leBytes 2 s.tot ++ s.body), 0)
theorem enc_split (s : St) : bs (leBytes 2 s.tot ++ s.body) = bs (leBytes 2 s.tot) ++ bs (leBytes 2 s.ty) ++ bs (leBytes 4 s.dev) ++ bs (qidL s.qt s.qv s.qp) ++ bs (leBytes 4 s.mo) ++ bs (leBytes 4 s.at_) ++ bs (leBytes 4 s.mt) ++ bs (leBytes 8 s.len) ++ bs (txt s.n) ++ bs (txt s.u) ++ bs (txt s.g) ++ bs (txt s.m) := by
  simp only [← bs_cat]
  simp only [St.body, St.nums, List.append_assoc]
end Go.Proofs.Ytjhhknmdnkkknaa
