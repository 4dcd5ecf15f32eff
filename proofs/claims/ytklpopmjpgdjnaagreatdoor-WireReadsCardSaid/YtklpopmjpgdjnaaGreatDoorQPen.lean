/- Package wire's pen: what it has written lies in a builder within it. -/
import Derived.Shelf.Strings.Builder1
import Derived.Test.YtklpopmjpgdjnaaGreatDoorQGa
import Derived.Test.YtklpopmjpgdjnaaGreatDoorQGb
set_option linter.unusedVariables false
set_option linter.unusedSimpArgs false
namespace Go.Proofs.YtklpopmjpgdjnaaGreatDoor
open Go.Shelf Go.RowKit

/-- what was added lies behind what was there -/
def Grows (w : World) (F F' : Nat → Prop) : Prop := ∀ k, F' k → F k ∨ w.heap.size ≤ k
theorem Grows.refl (w : World) (F : Nat → Prop) : Grows w F F := fun _ h => Or.inl h
theorem Grows.trans {w w' : World} {F F' F'' : Nat → Prop} (h : Grows w F F') (g : Grows w' F' F'') (hs : w.heap.size ≤ w'.heap.size) : Grows w F F'' := fun k hk => by
  rcases g k hk with h1 | h1
  · exact h k h1
  · exact Or.inr (by omega)
theorem Grows.apart {w : World} {F F' G : Nat → Prop} (h : Grows w F F') (hd : ∀ k, F k → ¬ G k) (hG : ∀ k, G k → k < w.heap.size) : ∀ k, F' k → ¬ G k := fun k hk hg => by
  rcases h k hk with h1 | h1
  · exact hd k h1 hg
  · have := hG k hg; omega
theorem Grows.early {w w0 : World} {F F' : Nat → Prop} (h : Grows w F F') (hs : w0.heap.size ≤ w.heap.size) : Grows w0 F F' := fun k hk => by
  rcases h k hk with h1 | h1
  · exact Or.inl h1
  · exact Or.inr (by omega)
/-- what is written behind what grew is written into what was, as far as it was there -/
theorem Mod.grows {w w1 w2 : World} {F F' : Nat → Prop} (h : Mod F w w1) (g : Grows w F F') (k : Mod F' w1 w2) : Mod F w w2 := h.trans' k fun j hj hF => by
  rcases g j hF with x | x
  · exact x
  · omega
theorem info_u8 : (Tryz.prog.info? 5).map (fun i => (i.zero, i.size, i.bytes)) = some (some (.int .u8 0), 1, 1) := by kernel_rfl
/-- a string appended to a row of our own, and where the row lies then -/
theorem append_str (w : World) (base : Nat) (v : Value) (n : Nat) (xs : List Value) (ty : TypeId) (hown : w.ownsRow base 5 1 v n xs) (s : ByteArray) (hb : n + s.size ≤ 140737488355328) (hbase : base ≤ w.heap.size) :
    ∃ v' w', (Builtin.append_ #[68, 9] ty #[v, .string s]).run Tryz.prog w = .ok v' w' ∧ w'.ownsRow base 5 1 v' (n + s.size) (xs ++ Lib.strCells s) ∧ Mod (fun k => some k = v.ownBlock) w w' ∧ (v'.ownBlock = v.ownBlock ∨ v'.ownBlock = some w.heap.size) := by
  obtain ⟨i0, hi, hz0, hz1, hz2⟩ := info_parts info_u8
  obtain ⟨v', w', hr, h2, h3, _⟩ := Lib.run_append_own_string (P := Tryz.prog) w base 68 9 ty 5 i0 Tryz.underlying68 Tryz.underlying9 hi hz0 hz1 hz2 v n xs hown s (by unfold maxLen; omega) hb hbase
  obtain ⟨v2, w2, hr2, _, _, h6⟩ := run_append_A (P := Tryz.prog) w base 68 9 ty 5 i0 (.int .u8 0) 1 1 Tryz.underlying68 hi hz0 hz1 hz2 rfl (by decide) v n xs (OwnA.of_owns hown) (.string s) s.size (bc s.data.toList) (src_string w Tryz.underlying9 s) (by omega) (by omega) hbase
  rw [hr] at hr2
  injection hr2 with e1 e2
  subst e1 e2
  exact ⟨v', w', hr, h2, Mod.of_grown h3, h6⟩
/-- .. as an operation -/
theorem wpl_append_str {w : World} {ops : Array Oper} {rest : List Oper} {o : Oper} {a : Act} {Q : Exit → Act → World → Prop} (hgd : o.guard = none) (sl x : Operand)
    (ho : o.op = .call { callee := .builtin .append, args := #[sl, x], argTypes := #[68, 9] })
    (base : Nat) (v : Value) (n : Nat) (xs : List Value) (hs : a.eval sl = v) (hown : w.ownsRow base 5 1 v n xs) (s : ByteArray) (hx : a.eval x = .string s) (hb : n + s.size ≤ 140737488355328) (hbase : base ≤ w.heap.size)
    (h : ∀ v' w', w'.ownsRow base 5 1 v' (n + s.size) (xs ++ Lib.strCells s) → Mod (fun k => some k = v.ownBlock) w w' → (v'.ownBlock = v.ownBlock ∨ v'.ownBlock = some w.heap.size) → wpList Tryz.prog ops Q rest (a.put o.dst v') w') : wpList Tryz.prog ops Q (o :: rest) a w := by
  refine wpList_plain hgd fun K hK => ?_
  obtain ⟨v', w', hr, h2, h3, h4⟩ := append_str w base v n xs o.type hown s hb hbase
  unfold Oper.wp execOp
  simp only [ho, resolve, invoke, builtin, Sem.run_bind, Sem.run_pure, Result.andThen_ok, List.map_toArray, List.map_cons, List.map_nil, hs, hx, hr]
  exact hK _ _ (h v' w' h2 h3 h4)

def penO (d : Int) (p v : Value) (br : Nat) (lg wr : Bool) : Obj := .cells #[.int .i64 d, p, v, .pointer (some ⟨br, 0, none⟩), .bool lg, .bool wr] 72 (0, 0)
/-- a pen at bp: what it does, what it has written, whence it reads -/
structure PenP (w : World) (F : Nat → Prop) (bp : Nat) (d : Int) (out : List UInt8) (br : Nat) (lg wr : Bool) (p v : Value) : Prop where
  obj : w.heap[bp]? = some (penO d p v br lg wr)
  own : w.ownsRow 0 5 1 v out.length (Lib.byteCells out)
  ne : v.ownBlock ≠ some bp
  ad : p = .pointer none ∨ p = .pointer (some ⟨bp, 1, none⟩)
  fb : F bp
  fv : ∀ k, some k = v.ownBlock → F k
  lt : ∀ k, F k → k < w.heap.size
def PenAt (w : World) (F : Nat → Prop) (bp : Nat) (d : Int) (out : List UInt8) (br : Nat) (lg wr : Bool) : Prop := ∃ p v, PenP w F bp d out br lg wr p v
theorem owns_modR {U V : World} {S : Nat → Prop} (hm : Mod S U V) {B size n : Nat} {e : TypeId} {v : Value} {xs : List Value} (h : U.ownsRow B e size v n xs) (hS : ∀ k, some k = v.ownBlock → ¬ S k) : V.ownsRow B e size v n xs := by
  refine ⟨h.1, ?_⟩
  rcases h.2 with hn | ⟨g, cap, cur, hv, hb, hgg, r⟩
  · exact .inl hn
  · exact .inr ⟨g, cap, cur, hv, hb, (hm.block g (lt_of hgg) (hS g (by rw [hv]; rfl))).trans hgg, r⟩
theorem PenP.mod {U V : World} {F S : Nat → Prop} {bp br : Nat} {d : Int} {out : List UInt8} {lg wr : Bool} {p v : Value} (h : PenP U F bp d out br lg wr p v) (hm : Mod S U V) (hS : ∀ k, S k → ¬ F k) : PenP V F bp d out br lg wr p v :=
  ⟨(hm.block bp (lt_of h.obj) (fun x => hS bp x h.fb)).trans h.obj, owns_modR hm h.own fun k hk x => hS k x (h.fv k hk), h.ne, h.ad, h.fb, h.fv, fun k hk => Nat.lt_of_lt_of_le (h.lt k hk) hm.size⟩
theorem PenAt.mod {U V : World} {F S : Nat → Prop} {bp br : Nat} {d : Int} {out : List UInt8} {lg wr : Bool} (h : PenAt U F bp d out br lg wr) (hm : Mod S U V) (hS : ∀ k, S k → ¬ F k) : PenAt V F bp d out br lg wr := by
  obtain ⟨p, v, h⟩ := h
  exact ⟨p, v, h.mod hm hS⟩
theorem PenAt.lt {U : World} {F : Nat → Prop} {bp br : Nat} {d : Int} {out : List UInt8} {lg wr : Bool} (h : PenAt U F bp d out br lg wr) : ∀ k, F k → k < U.heap.size := by
  obtain ⟨p, v, h⟩ := h
  exact h.lt
theorem PenAt.fb {U : World} {F : Nat → Prop} {bp br : Nat} {d : Int} {out : List UInt8} {lg wr : Bool} (h : PenAt U F bp d out br lg wr) : F bp := by
  obtain ⟨p, v, h⟩ := h
  exact h.fb
theorem PenAt.cells {U : World} {F : Nat → Prop} {bp br : Nat} {d : Int} {out : List UInt8} {lg wr : Bool} (h : PenAt U F bp d out br lg wr) :
    U.cell? ⟨bp, 0, none⟩ = some (.int .i64 d) ∧ U.cell? ⟨bp, 3, none⟩ = some (.pointer (some ⟨br, 0, none⟩)) ∧ U.cell? ⟨bp, 4, none⟩ = some (.bool lg) ∧ U.frozen? ⟨bp, 4, none⟩ = false ∧ U.cell? ⟨bp, 5, none⟩ = some (.bool wr) ∧ U.frozen? ⟨bp, 5, none⟩ = false := by
  obtain ⟨p, v, h⟩ := h
  have h := h.obj
  exact ⟨(cell_of h 0).trans rfl, (cell_of h 3).trans rfl, (cell_of h 4).trans rfl, free_of h 4, (cell_of h 5).trans rfl, free_of h 5⟩
/-- 'p.long' is set -/
theorem PenAt.setLong {U : World} {F : Nat → Prop} {bp br : Nat} {d : Int} {out : List UInt8} {lg wr : Bool} (h : PenAt U F bp d out br lg wr) (x : Bool) : PenAt (U.setCell ⟨bp, 4, none⟩ (.bool x)) F bp d out br x wr ∧ Mod F U (U.setCell ⟨bp, 4, none⟩ (.bool x)) := by
  obtain ⟨p, v, h⟩ := h
  have hm : Mod (· = bp) U (U.setCell ⟨bp, 4, none⟩ (.bool x)) := Mod.set1 U bp 4 _
  exact ⟨⟨p, v, heap_set h.obj 4 _, owns_modR hm h.own fun k hk e => h.ne (by rw [← hk, e]), h.ne, h.ad, h.fb, h.fv, fun k hk => Nat.lt_of_lt_of_le (h.lt k hk) hm.size⟩, hm.mono fun k _ e => by rw [e]; exact h.fb⟩
theorem PenAt.setWrong {U : World} {F : Nat → Prop} {bp br : Nat} {d : Int} {out : List UInt8} {lg wr : Bool} (h : PenAt U F bp d out br lg wr) (x : Bool) : PenAt (U.setCell ⟨bp, 5, none⟩ (.bool x)) F bp d out br lg x ∧ Mod F U (U.setCell ⟨bp, 5, none⟩ (.bool x)) := by
  obtain ⟨p, v, h⟩ := h
  have hm : Mod (· = bp) U (U.setCell ⟨bp, 5, none⟩ (.bool x)) := Mod.set1 U bp 5 _
  exact ⟨⟨p, v, heap_set h.obj 5 _, owns_modR hm h.own fun k hk e => h.ne (by rw [← hk, e]), h.ne, h.ad, h.fb, h.fv, fun k hk => Nat.lt_of_lt_of_le (h.lt k hk) hm.size⟩, hm.mono fun k _ e => by rw [e]; exact h.fb⟩
theorem info_bld : (Tryz.prog.info? 70).map (·.size) = some 2 := by kernel_rfl
set_option maxHeartbeats 1000000 in
set_option maxRecDepth 100000 in
theorem check_used (b : Nat) (w : World) (h0 : w.cell? ⟨b, 1, none⟩ = some (.pointer (some ⟨b, 1, none⟩))) :
    Calls Tryz.prog 110 #[.pointer (some ⟨b, 1, none⟩)] w fun e w' => e = .returned (.tuple #[]) ∧ w' = w := by
  obtain ⟨j, hj, hjs⟩ := Option.map_eq_some_iff.1 info_bld
  go_enter Tryz.func110, Tryz.ntmps110
  go_wp2
  rw [Lib.run_neq_ptr_same w _ Tryz.underlying67 hj]
  go_wp2
  go_end0
  exact ⟨rfl, rfl⟩
set_option maxHeartbeats 1000000 in
set_option maxRecDepth 100000 in
theorem check_fresh (b : Nat) (w : World) (h0 : w.cell? ⟨b, 1, none⟩ = some (.pointer none)) (hsh : w.shape? b = some (72, 6)) (hfz : w.frozen? ⟨b, 1, none⟩ = false) :
    Calls Tryz.prog 110 #[.pointer (some ⟨b, 1, none⟩)] w fun e w' => e = .returned (.tuple #[]) ∧ w' = w.setCell ⟨b, 1, none⟩ (.pointer (some ⟨b, 1, none⟩)) := by
  obtain ⟨j, hj, hjs⟩ := Option.map_eq_some_iff.1 info_bld
  go_enter Tryz.func110, Tryz.ntmps110
  go_wp2
  rw [Lib.run_to_unsafe w ⟨b, 1, none⟩ Tryz.underlying67 Tryz.underlying168 hj (by rw [hjs]; decide) hsh (show 1 < 6 by decide)]
  simp only [Result.andThen]
  rw [Oper.upon_value]
  go_wp2
  rw [run_callFunc_extern Tryz.func134 (by kernel_rfl) (by kernel_rfl) (by kernel_rfl) (e := Extern.AbiNoEscape.same) (by kernel_rfl)]
  rw [Lib.run_noEscape]
  simp only [Result.andThen]
  rw [Oper.upon_value]
  go_wp2
  rw [Lib.run_from_unsafe w ⟨b, 1, none⟩ Tryz.underlying168 Tryz.underlying67 hj hsh (by kernel_rfl)]
  simp only [Result.andThen]
  rw [Oper.upon_value]
  go_wp2
  go_end0
  exact ⟨rfl, rfl⟩
theorem check_any (bp br : Nat) (F : Nat → Prop) (d : Int) (out : List UInt8) (lg wr : Bool) (p v : Value) (w : World) (h : PenP w F bp d out br lg wr p v) :
    Calls Tryz.prog 110 #[.pointer (some ⟨bp, 1, none⟩)] w fun e w' => e = .returned (.tuple #[]) ∧ PenP w' F bp d out br lg wr (.pointer (some ⟨bp, 1, none⟩)) v ∧ Mod (· = bp) w w' := by
  have hsh : w.shape? bp = some (72, 6) := by simp [World.shape?, h.obj, penO]
  rcases h.ad with rfl | rfl
  · refine (check_fresh bp w ((cell_of h.obj 1).trans rfl) hsh (free_of h.obj 1)).mono ?_
    rintro e w' ⟨rfl, rfl⟩
    have hm : Mod (· = bp) w (w.setCell ⟨bp, 1, none⟩ (.pointer (some ⟨bp, 1, none⟩))) := Mod.set1 w bp 1 _
    exact ⟨rfl, ⟨heap_set h.obj 1 _, owns_modR hm h.own fun k hk e => h.ne (by rw [← hk, e]), h.ne, Or.inr rfl, h.fb, h.fv, fun k hk => Nat.lt_of_lt_of_le (h.lt k hk) hm.size⟩, hm⟩
  · refine (check_used bp w ((cell_of h.obj 1).trans rfl)).mono ?_
    rintro e w' ⟨rfl, rfl⟩
    exact ⟨rfl, h, Mod.refl _ _⟩
theorem strCells_bytes (l : List UInt8) (s : ByteArray) : Lib.byteCells l ++ Lib.strCells s = Lib.byteCells (l ++ s.data.toList) := by simp [Lib.byteCells, Lib.strCells]
/-- how the pen stands when its row has grown -/
theorem PenP.put {w w2 : World} {F : Nat → Prop} {bp br : Nat} {d : Int} {out : List UInt8} {lg wr : Bool} {p v v' : Value} (h : PenP w F bp d out br lg wr p v) (s : ByteArray)
    (ho : w2.ownsRow 0 5 1 v' (out.length + s.size) (Lib.byteCells out ++ Lib.strCells s)) (hm : Mod (fun k => some k = v.ownBlock) w w2) (hw : v'.ownBlock = v.ownBlock ∨ v'.ownBlock = some w.heap.size) :
    ∃ F', PenP (w2.setCell ⟨bp, 2, none⟩ v') F' bp d (out ++ s.data.toList) br lg wr p v' ∧ Mod F w (w2.setCell ⟨bp, 2, none⟩ v') ∧ Grows w F F' := by
  have hl : bp < w.heap.size := lt_of h.obj
  have hb2 : w2.heap[bp]? = some (penO d p v br lg wr) := (hm.block bp hl (fun x => h.ne x.symm)).trans h.obj
  have hms : Mod (· = bp) w2 (w2.setCell ⟨bp, 2, none⟩ v') := Mod.set1 w2 bp 2 _
  have hne : v'.ownBlock ≠ some bp := by
    rcases hw with e | e
    · rw [e]; exact h.ne
    · rw [e]; intro x; injection x with x; omega
  refine ⟨fun k => F k ∨ some k = v'.ownBlock, ⟨heap_set hb2 2 v', ?_, hne, h.ad, Or.inl h.fb, fun k hk => Or.inr hk, fun k hk => ?_⟩, ?_, fun k hk => ?_⟩
  · have hlen : (out ++ s.data.toList).length = out.length + s.size := by rw [List.length_append, Array.length_toList]; rfl
    rw [hlen, ← strCells_bytes]
    exact owns_modR hms ho fun k hk e => hne (by rw [← hk, e])
  · have h2 := hms.size
    rcases hk with x | x
    · have := h.lt k x; have := hm.size; omega
    · have := (ho.lt k x.symm).2; omega
  · exact (hm.mono fun k _ x => h.fv k x).trans' hms fun k _ e => by rw [e]; exact h.fb
  · rcases hk with x | x
    · exact Or.inl x
    · rcases hw with e | e
      · exact Or.inl (h.fv k (x.trans e))
      · rw [e] at x; injection x with x; exact Or.inr (by omega)
set_option maxHeartbeats 2000000 in
set_option maxRecDepth 100000 in
theorem pwrite_str (bp br : Nat) (F : Nat → Prop) (d : Int) (out : List UInt8) (lg wr : Bool) (s : ByteArray) (w : World) (h : PenAt w F bp d out br lg wr) (hlen : out.length + s.size ≤ 140737488355328) :
    Calls Tryz.prog 90 #[.pointer (some ⟨bp, 1, none⟩), .string s] w fun e w' => e = .returned (.tuple #[.int .i64 s.size, .nilIface]) ∧ ∃ F', PenAt w' F' bp d (out ++ s.data.toList) br lg wr ∧ Mod F w w' ∧ Grows w F F' := by
  obtain ⟨p, v, h⟩ := h
  go_enter Tryz.func90, Tryz.ntmps90
  go_wp2_with fail
  refine (check_any bp br F d out lg wr p v _ h).mono ?_
  rintro e w1 ⟨rfl, h1, m1⟩
  have c2 : w1.cell? ⟨bp, 2, none⟩ = some v := (cell_of h1.obj 2).trans rfl
  have H1 := Lib.hid h1
  have hM1 := Lib.hid (m1.mono (T := F) fun k _ e => by rw [e]; exact h.fb)
  clear h m1 h1
  go_wp2_with (at_builtin; refine wpl_append_str rfl _ _ rfl 0 _ _ _ rfl H1.out.own s rfl ?c5 (Nat.zero_le _) ?_)
  case c5 => exact hlen
  intro v' w2 ho hm hw
  obtain ⟨F', hp, hmF, hg⟩ := H1.out.put s ho hm hw
  have f2 : w2.frozen? ⟨bp, 2, none⟩ = false := by
    have hb2 := (hm.block bp (lt_of H1.out.obj) (fun x => H1.out.ne x.symm)).trans H1.out.obj
    exact free_of hb2 2
  have d2 : w2.cell? ⟨bp, 2, none⟩ = some v := by
    have hb2 := (hm.block bp (lt_of H1.out.obj) (fun x => H1.out.ne x.symm)).trans H1.out.obj
    exact (cell_of hb2 2).trans rfl
  obtain ⟨ao, n', cap, rfl⟩ : ∃ ao n' cap, v' = .slice ao n' cap := by
    rcases ho.2 with ⟨hv, _⟩ | ⟨g, cap, cur, hv, _⟩
    · exact ⟨_, _, _, hv⟩
    · exact ⟨_, _, _, hv⟩
  obtain ⟨ao0, n0, cap0, rfl⟩ : ∃ ao n' cap, v = .slice ao n' cap := by
    rcases H1.out.own.2 with ⟨hv, _⟩ | ⟨g, cap, cur, hv, _⟩
    · exact ⟨_, _, _, hv⟩
    · exact ⟨_, _, _, hv⟩
  have HE := Lib.hid (show ∃ F', PenAt _ F' bp d (out ++ s.data.toList) br lg wr ∧ Mod F w _ ∧ Grows w F F' from ⟨F', ⟨_, _, hp⟩, hM1.out.trans hmF, hg.early hM1.out.size⟩)
  clear hp hmF hg ho hm hw H1 hM1
  go_wp2
  go_ret2
  exact ⟨rfl, HE.out⟩
set_option maxHeartbeats 1000000 in
theorem plen_any (bp br : Nat) (F : Nat → Prop) (d : Int) (out : List UInt8) (lg wr : Bool) (w : World) (h : PenAt w F bp d out br lg wr) :
    Calls Tryz.prog 40 #[.pointer (some ⟨bp, 1, none⟩)] w fun e w' => e = .returned (.int .i64 out.length) ∧ w' = w := by
  obtain ⟨p, v, h⟩ := h
  have c2 : w.cell? ⟨bp, 2, none⟩ = some v := (cell_of h.obj 2).trans rfl
  obtain ⟨ao, cap, rfl⟩ : ∃ ao cap, v = .slice ao out.length cap := by
    rcases h.own.2 with ⟨hv, h0⟩ | ⟨g, cap, cur, hv, _⟩
    · rw [h0]; exact ⟨_, _, hv⟩
    · exact ⟨_, _, hv⟩
  clear h
  go_enter Tryz.func40, Tryz.ntmps40
  go_wp2
  go_ret
  exact ⟨rfl, rfl⟩
end Go.Proofs.YtklpopmjpgdjnaaGreatDoor
