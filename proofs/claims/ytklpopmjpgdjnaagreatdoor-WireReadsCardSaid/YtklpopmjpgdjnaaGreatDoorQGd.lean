/- Package stat's Qid.
   The document's numbers and texts of chapter 23.
   strings.Builder: copyCheck, WriteString, Len, String, at this program.
   An array of texts that is a value, at a place. -/
import Derived.Test.YtklpopmjpgdjnaaGreatDoorQGa
import Derived.Test.YtklpopmjpgdjnaaGreatDoorQGb
import Derived.Test.YtklpopmjpgdjnaaGreatDoorQGc
import Derived.Shelf.Strings.Builder1
set_option linter.unusedVariables false
set_option linter.unusedSimpArgs false
namespace Go.Proofs.YtklpopmjpgdjnaaGreatDoor
open Go.RowKit

set_option maxRecDepth 20000 in
set_option maxHeartbeats 2000000 in
theorem qid_any (t v p : Nat) (w : World) (ht : t < 256) (hv : v < 4294967296) (hp : p < 18446744073709551616) :
    Calls Tryz.prog 140 #[.agg #[.int .u8 t, .int .u32 v, .int .u64 p]] w fun e w' => e = .returned (.string (bs (qidL t v p))) ∧ Mod (fun _ => False) w w' := by
  have hsz : ∀ n x, (bs (leBytes n x)).size = n := fun n x => by rw [bs_size, leBytes_length]
  have hap : ∀ a b : ByteArray, (a ++ b).size = a.size + b.size := fun a b => ByteArray.size_append
  obtain ⟨W, hW⟩ : ∃ W, w.alloc (.cells #[.int .u8 t, .int .u32 v, .int .u64 p] 28) = W := ⟨_, rfl⟩
  have hb : W.heap[w.heap.size]? = some (.cells #[.int .u8 t, .int .u32 v, .int .u64 p] 28 (0, 0)) := by subst hW; exact new_at _ _
  have hm : Mod (fun _ => False) w W := by subst hW; exact (Mod.refl _ w).alloc _
  have hS0 : W.drew.cell? ⟨w.heap.size, 0, none⟩ = some (.int .u8 t) ∧ W.drew.cell? ⟨w.heap.size, 1, none⟩ = some (.int .u32 v) ∧ W.drew.cell? ⟨w.heap.size, 2, none⟩ = some (.int .u64 p) := ⟨(cell_of (w := W.drew) hb 0).trans rfl, (cell_of (w := W.drew) hb 1).trans rfl, (cell_of (w := W.drew) hb 2).trans rfl⟩
  have hSk : ∀ (U V : World), (U.cell? ⟨w.heap.size, 0, none⟩ = some (.int .u8 t) ∧ U.cell? ⟨w.heap.size, 1, none⟩ = some (.int .u32 v) ∧ U.cell? ⟨w.heap.size, 2, none⟩ = some (.int .u64 p)) → Mod (fun _ => False) U V → (V.cell? ⟨w.heap.size, 0, none⟩ = some (.int .u8 t) ∧ V.cell? ⟨w.heap.size, 1, none⟩ = some (.int .u32 v) ∧ V.cell? ⟨w.heap.size, 2, none⟩ = some (.int .u64 p)) := by
    rintro U V ⟨h1, h2, h3⟩ hm
    have hb := hm.block _ (World.block_lt_of_cell? _ _ h1) (fun x => x)
    exact ⟨(World.cell?_of_block (a := ⟨w.heap.size, 0, none⟩) hb).trans h1, (World.cell?_of_block (a := ⟨w.heap.size, 1, none⟩) hb).trans h2, (World.cell?_of_block (a := ⟨w.heap.size, 2, none⟩) hb).trans h3⟩
  have Mc : Hid (Mod (fun _ => False) w W.drew) := hm.drew
  go_enter Tryz.func140, Tryz.ntmps140
  go_wp2
  refine wp_onlyN ?_
  go_region_held_law (fun w' => w'.cell? ⟨w.heap.size, 0, none⟩ = some (.int .u8 t) ∧ w'.cell? ⟨w.heap.size, 1, none⟩ = some (.int .u32 v) ∧ w'.cell? ⟨w.heap.size, 2, none⟩ = some (.int .u64 p)) (first | assumption | exact hSk _ _ (by assumption) m4) (first
    | (go_at_call 42; refine (wU8_x t _ (by omega)).mono ?_; rintro e w4 ⟨rfl, m4⟩; have Mc := Lib.hid (Mc.out.trans m4))
    | (go_at_call 41; refine (wU32_x v _ (by omega)).mono ?_; rintro e w4 ⟨rfl, m4⟩; have Mc := Lib.hid (Mc.out.trans m4))
    | (go_at_call 120; refine (wU64_x p _ (by omega)).mono ?_; rintro e w4 ⟨rfl, m4⟩; have Mc := Lib.hid (Mc.out.trans m4)))
  all_goals refine onlyN_out ?_
  all_goals go_wp2
  all_goals go_ret
  all_goals exact ⟨by unfold qidL; rw [bs_cat, bs_cat]; rfl, Mc.out⟩
end Go.Proofs.YtklpopmjpgdjnaaGreatDoor
namespace Go.Proofs.YtklpopmjpgdjnaaGreatDoor
open Go.RowKit

theorem leBytes_snoc : ∀ (k x : Nat), leBytes (k + 1) x = leBytes k x ++ [UInt8.ofNat (x / 2 ^ (8 * k))]
  | 0, x => by simp [leBytes]
  | k + 1, x => by
    show UInt8.ofNat x :: leBytes (k + 1) (x / 256) = UInt8.ofNat x :: leBytes k (x / 256) ++ _
    rw [leBytes_snoc k (x / 256), Nat.div_div_eq_div_mul, show 256 * 2 ^ (8 * k) = 2 ^ (8 * (k + 1)) from by rw [show 8 * (k + 1) = 8 + 8 * k from by omega, Nat.pow_add]]
    rfl
theorem bc_snoc (l : List UInt8) (b : UInt8) : bc (l ++ [b]) = bc l ++ [.int .u8 (b.toNat : Int)] := by simp [bc]
theorem info_u8n : (Tryz.prog.info? 5).map (fun i => (i.zero, i.size, i.bytes)) = some (some (.int .u8 0), 1, 1) := by kernel_rfl

set_option maxRecDepth 20000 in
set_option maxHeartbeats 1000000 in
theorem n23_any (x n : Nat) (m : Int) (hm0 : m = n) (w : World) (_hx : x < 18446744073709551616) (hn1 : 1 ≤ n) (hn : n ≤ 8) :
    Calls Tryz.prog 46 #[.int .u64 x, .int .i64 m] w fun e w' => e = .returned (.string (bs (leBytes n x))) ∧ Mod (fun _ => False) w w' := by
  subst hm0
  go_enter Tryz.func46, Tryz.ntmps46
  go_wp2
  go_loopw [5, 6] (fun v i wr => ∃ k : Nat, k ≤ n ∧ i = .int .i64 k ∧ OwnA wr w.heap.size 1 v k (bc (leBytes k x)) ∧ Hid (Mod (fun _ => False) w wr)) (fun _ i _ => n - (intOf i).toNat)
  case atStart => exact ⟨0, Nat.zero_le _, rfl, OwnA.nil _ _ _, Mod.refl _ _⟩
  case round =>
    obtain ⟨k, hk, rfl, hown, HM⟩ := hrel
    by_cases hlt : k < n
    · have t1 : decide (k < n) = true := by simp [hlt]
      obtain ⟨y, hy⟩ : ∃ y, x / 2 ^ (8 * k) % 256 = y := ⟨_, rfl⟩
      have hyI : (x : Int) / 2 ^ (8 * k) % 256 = y := by rw [← hy]; simp
      have hbs : leBytes (k + 1) x = leBytes k x ++ [UInt8.ofNat y] := by
        rw [leBytes_snoc, ← hy]
        congr 2
        apply UInt8.toNat_inj.1
        simp
      have hby : ((UInt8.ofNat y).toNat : Int) = y := by
        have : y < 256 := by rw [← hy]; exact Nat.mod_lt _ (by decide)
        simp
        omega
      have HBS := Lib.hid (And.intro hbs hby)
      clear hbs hby
      have hsz := HM.out.size
      have A1 : Hid (OwnA (wr.alloc (.cells #[.int .u8 y] 5)) w.heap.size 1 u5 k (bc (leBytes k x))) := hown.mod ((Mod.refl (fun _ => False) wr).alloc _) (fun _ _ x => x)
      have A2 : Hid (Src Tryz.prog 1 68 (.slice (some ⟨wr.heap.size, 0, none⟩) 1 1) 1 [.int .u8 y] (wr.alloc (.cells #[.int .u8 y] 5))) :=
        Src.ofSlice _ Tryz.underlying68 _ _ _ _ rfl (fun j u hj => by
          cases j with
          | zero => cases hj; exact (cell_of (new_at wr _) 0).trans rfl
          | succ j => cases hj) (by intro u hu; simp only [List.mem_cons, List.not_mem_nil, or_false] at hu; subst hu; rfl)
      have A3 : Hid ((k + 1) * 1 ≤ 140737488355328) := by show _ ≤ _; omega
      have A4 : Hid (k + 1 ≤ 9223372036854775807) := by show _ ≤ _; omega
      have A5 : Hid (w.heap.size ≤ (wr.alloc (.cells #[.int .u8 y] 5)).heap.size) := by show _ ≤ _; rw [World.size_alloc]; omega
      clear hown
      go_wp2_with (refine wpl_append rfl (.tmp 12) (.tmp 19) _ _ rfl w.heap.size 5 (.int .u8 0) 1 1 Tryz.underlying68 info_u8n rfl (by decide) u5 _ _ rfl A1.out _ _ _ rfl A2.out A3.out A4.out A5.out ?_; intro v' w3 hown' hgrow)
      go_roundw
      case rel =>
        refine ⟨k + 1, hlt, by go_num, ?_, ?_⟩
        · rw [HBS.out.1, bc_snoc, HBS.out.2]; exact hown'
        · exact A1.out.thenMod (HM.out.alloc _) hgrow (by omega)
      case measure => simp [intOf]; omega
    · obtain rfl : k = n := by omega
      have t1 : decide (k < k) = false := by simp
      rcases hown.2 with ⟨_, h0⟩ | ⟨g, cap, rfl, _, hg, _, _, _, hc⟩
      · omega
      · have hcv := conv_string (P := Tryz.prog) wr 68 9 5 g 0 cap (leBytes k x) k (leBytes_length k x).symm Tryz.underlying68 Tryz.underlying5 Tryz.underlying9
          (fun j hj => by rw [Nat.zero_add]; exact hc j _ (by simp [bc, hj]))
        clear hown hc
        go_wp2
        go_ret
        exact ⟨rfl, HM.out⟩

theorem n23m_any (x : Nat) (m : Int) (w : World) (hx : x < 18446744073709551616) (h1 : 1 ≤ m) (h8 : m ≤ 8) :
    Calls Tryz.prog 46 #[.int .u64 x, .int .i64 m] w fun e w' => e = .returned (.string (bs (leBytes m.toNat x))) ∧ Mod (fun _ => False) w w' :=
  n23_any x m.toNat m (by omega) w hx (by omega) (by omega)
theorem t23_any (s : ByteArray) (w : World) (hs : s.size ≤ 1099511627776) :
    Calls Tryz.prog 133 #[.string s] w fun e w' => e = .returned (.string (bs (leBytes 2 s.size ++ s.data.toList))) ∧ Mod (fun _ => False) w w' := by
  go_enter Tryz.func133, Tryz.ntmps133
  go_wp2_with fail
  refine (n23_any s.size 2 2 rfl _ (by omega) (by decide) (by decide)).mono ?_
  rintro e w1 ⟨rfl, m1⟩
  have hb : (bs (leBytes 2 s.size)).size ≤ 2 := by rw [bs_size, leBytes_length]; exact Nat.le_refl _
  have hcat : bs (leBytes 2 s.size ++ s.data.toList) = bs (leBytes 2 s.size) ++ s := by rw [bs_cat, bs_of]
  have HCAT := Lib.hid hcat
  clear hcat
  generalize bs (leBytes 2 s.size) = t at *
  go_wp2
  go_ret
  exact ⟨by rw [HCAT.out]; rfl, m1⟩
end Go.Proofs.YtklpopmjpgdjnaaGreatDoor
namespace Go.Proofs.YtklpopmjpgdjnaaGreatDoor
open Go.Shelf Go.RowKit

/-- a builder at b that holds the bytes l, its row from b on -/
def Bld (w : World) (b : Nat) (l : List UInt8) : Prop := Lib.IsBuilder 70 5 b b (Lib.byteCells l) w
theorem info_bld : (Tryz.prog.info? 70).map (·.size) = some 2 := by kernel_rfl
theorem Bld.fresh (w : World) : Bld (w.alloc (.cells #[.pointer none, .slice none 0 0] 70)) w.heap.size [] := Lib.fresh_isBuilder _ _ w

set_option maxHeartbeats 1000000 in
set_option maxRecDepth 100000 in
theorem copyCheck_used (b : Nat) (w : World) (h0 : w.cell? ⟨b, 0, none⟩ = some (.pointer (some ⟨b, 0, none⟩))) :
    Calls Tryz.prog 110 #[.pointer (some ⟨b, 0, none⟩)] w fun e w' => e = .returned (.tuple #[]) ∧ w' = w := by
  obtain ⟨j, hj, hjs⟩ := Option.map_eq_some_iff.1 info_bld
  go_enter Tryz.func110, Tryz.ntmps110
  go_wp2
  rw [Lib.run_neq_ptr_same w _ Tryz.underlying67 hj]
  go_wp2
  go_end0
  exact ⟨rfl, rfl⟩
set_option maxHeartbeats 1000000 in
set_option maxRecDepth 100000 in
theorem copyCheck_fresh (b : Nat) (w : World) (h0 : w.cell? ⟨b, 0, none⟩ = some (.pointer none)) (hsh : w.shape? b = some (70, 2)) (hfz : w.frozen? ⟨b, 0, none⟩ = false) :
    Calls Tryz.prog 110 #[.pointer (some ⟨b, 0, none⟩)] w fun e w' => e = .returned (.tuple #[]) ∧ w' = w.setCell ⟨b, 0, none⟩ (.pointer (some ⟨b, 0, none⟩)) := by
  obtain ⟨j, hj, hjs⟩ := Option.map_eq_some_iff.1 info_bld
  go_enter Tryz.func110, Tryz.ntmps110
  go_wp2
  rw [Lib.run_to_unsafe w ⟨b, 0, none⟩ Tryz.underlying67 Tryz.underlying168 hj (by rw [hjs]; decide) hsh (Nat.zero_lt_succ 1)]
  simp only [Result.andThen]
  rw [Oper.upon_value]
  go_wp2
  rw [run_callFunc_extern Tryz.func134 (by kernel_rfl) (by kernel_rfl) (by kernel_rfl) (e := Extern.AbiNoEscape.same) (by kernel_rfl)]
  rw [Lib.run_noEscape]
  simp only [Result.andThen]
  rw [Oper.upon_value]
  go_wp2
  rw [Lib.run_from_unsafe w ⟨b, 0, none⟩ Tryz.underlying168 Tryz.underlying67 hj hsh (by kernel_rfl)]
  simp only [Result.andThen]
  rw [Oper.upon_value]
  go_wp2
  go_end0
  exact ⟨rfl, rfl⟩

theorem Bld.lt {w : World} {b : Nat} {l : List UInt8} (h : Bld w b l) : b < w.heap.size := by
  rcases h with h | h <;> exact Lib.BuilderAt.lt h
theorem Bld.alloc {w : World} {b : Nat} {l : List UInt8} (h : Bld w b l) (o : Obj) : Bld (w.alloc o) b l := by
  have key : ∀ p, Lib.BuilderAt 70 5 b b p (Lib.byteCells l) w → Lib.BuilderAt 70 5 b b p (Lib.byteCells l) (w.alloc o) := by
    rintro p ⟨h1, v, h2, h3, h4⟩
    exact ⟨h1, v, alloc_keep h2, h3.alloc _, h4⟩
  rcases h with h | h
  · exact Or.inl (key _ h)
  · exact Or.inr (key _ h)

theorem owns_modF {U V : World} (hm : Mod (fun _ => False) U V) {B size n : Nat} {e : TypeId} {v : Value} {xs : List Value} (h : U.ownsRow B e size v n xs) : V.ownsRow B e size v n xs := by
  refine ⟨h.1, ?_⟩
  rcases h.2 with hn | ⟨g, cap, cur, hv, hb, hgg, r⟩
  · exact .inl hn
  · exact .inr ⟨g, cap, cur, hv, hb, (hm.block g (lt_of hgg) (fun x => x)).trans hgg, r⟩
theorem Bld.mod {U V : World} (hm : Mod (fun _ => False) U V) {b : Nat} {l : List UInt8} (h : Bld U b l) : Bld V b l := by
  have key : ∀ p, Lib.BuilderAt 70 5 b b p (Lib.byteCells l) U → Lib.BuilderAt 70 5 b b p (Lib.byteCells l) V := by
    rintro p ⟨h1, v, h2, h3, h4⟩
    exact ⟨h1, v, (hm.block b (lt_of h2) (fun x => x)).trans h2, owns_modF hm h3, h4⟩
  rcases h with h | h
  · exact Or.inl (key _ h)
  · exact Or.inr (key _ h)

theorem copyCheck_any (b : Nat) (l : List UInt8) (w : World) (h : Bld w b l) :
    Calls Tryz.prog 110 #[.pointer (some ⟨b, 0, none⟩)] w fun e w' => e = .returned (.tuple #[]) ∧ Lib.BuilderAt 70 5 b b (.pointer (some ⟨b, 0, none⟩)) (Lib.byteCells l) w' ∧ Below b w w' := by
  rcases h with h | h
  · refine (copyCheck_fresh b w h.cell0 h.shape h.frozen0).mono ?_
    rintro e w' ⟨rfl, rfl⟩
    exact ⟨rfl, h.used _, (Below.refl b w).setCell (p := ⟨b, 0, none⟩) h.1 _⟩
  · refine (copyCheck_used b w h.cell0).mono ?_
    rintro e w' ⟨rfl, rfl⟩
    exact ⟨rfl, h, Below.refl b _⟩

set_option maxHeartbeats 2000000 in
set_option maxRecDepth 100000 in
theorem write_any (b : Nat) (l : List UInt8) (s : ByteArray) (w : World) (h : Bld w b l) (hlen : l.length + s.size ≤ 140737488355328) :
    Calls Tryz.prog 90 #[.pointer (some ⟨b, 0, none⟩), .string s] w fun e w' => e = .returned (.tuple #[.int .i64 s.size, .nilIface]) ∧ Bld w' b (l ++ s.data.toList) ∧ Below b w w' := by
  obtain ⟨i0, hi, hz0, hz1, hz2⟩ := info_parts (show (Tryz.prog.info? 5).map (fun i => (i.zero, i.size, i.bytes)) = some (some (.int .u8 0), 1, 1) from by kernel_rfl)
  have hbw := h.lt
  go_enter Tryz.func90, Tryz.ntmps90
  go_wp2_with fail
  refine (copyCheck_any b l _ h).mono ?_
  rintro e w1 ⟨rfl, h1, hb1⟩
  obtain ⟨hB, v, hbk, hown, hne⟩ := h1
  have c0 : w1.cell? ⟨b, 0, none⟩ = some (.pointer (some ⟨b, 0, none⟩)) := by rw [Lib.cell_of_heap hbk]; rfl
  have c1 : w1.cell? ⟨b, 1, none⟩ = some v := by rw [Lib.cell_of_heap hbk]; rfl
  have hbl : (Lib.byteCells l).length = l.length := Lib.byteCells_length l
  go_wp2_with (at_builtin; refine Lib.wpList_append_own_string _ rfl _ _ 68 9 rfl b 5 i0 Tryz.underlying68 Tryz.underlying9 hi hz0 hz1 hz2 _ _ _ rfl hown s rfl ?c3 ?c4 ?c5 ?_)
  case c3 => unfold maxLen; omega
  case c4 => omega
  case c5 => have := hb1.size; omega
  intro v' w2 hown' hgrow _
  have hlt : b < w1.heap.size := Nat.lt_of_lt_of_le hbw hb1.size
  have hb2 : w2.heap[b]? = some (.cells #[.pointer (some ⟨b, 0, none⟩), v] 70 (0, 0)) := by
    rw [hgrow.block b hlt (fun e => hne e.symm)]
    exact hbk
  have d0 : w2.cell? ⟨b, 0, none⟩ = some (.pointer (some ⟨b, 0, none⟩)) := by rw [Lib.cell_of_heap hb2]; rfl
  have d1 : w2.cell? ⟨b, 1, none⟩ = some v := by rw [Lib.cell_of_heap hb2]; rfl
  have f1 : w2.frozen? ⟨b, 1, none⟩ = false := Lib.frozen_of_heap hb2 1
  obtain ⟨ao, n', cap, rfl⟩ : ∃ ao n' cap, v' = .slice ao n' cap := by
    rcases hown'.2 with ⟨hv, _⟩ | ⟨g, cap, cur, hv, _⟩
    · exact ⟨_, _, _, hv⟩
    · exact ⟨_, _, _, hv⟩
  go_wp2
  go_ret2
  refine ⟨rfl, Or.inr ?_, ?_⟩
  · have := Lib.BuilderAt.put (T := 70) (e := 5) hB hb2 (v' := .slice ao n' cap) (bs' := Lib.byteCells l ++ Lib.strCells s) (by rw [List.length_append, Lib.strCells_length, Lib.byteCells_length]; exact hown') (by decide)
    rwa [show Lib.byteCells l ++ Lib.strCells s = Lib.byteCells (l ++ s.data.toList) from by simp [Lib.byteCells, Lib.strCells]] at this
  · exact (hb1.grown hgrow (by have := hb1.size; omega) (fun k hk => (hown.lt k hk).1)).setCell (p := ⟨b, 1, none⟩) hB _

def lays169_ren : Go.Shelf.Ren := ⟨fun | 169 => 44 | n => n, fun | 70 => 67 | 9 => 9 | 0 => 0 | 72 => 70 | 37 => 68 | 127 => 111 | 3 => 3 | 5 => 5 | n => n, fun | n => n⟩
theorem lays169 : Go.Proofs.Lays.n169 Tryz.prog lays169_ren := {
  mixed := by kernel_rfl
  f169 := Tryz.func44.trans (congrArg some (by kernel_rfl))
  t0 := Tryz.underlying0
  a0 := Tryz.isAgg0
  z0 := Tryz.sizeOf0
  v0 := Tryz.zeroValue0
  t3 := Tryz.underlying3
  a3 := Tryz.isAgg3
  z3 := Tryz.sizeOf3
  v3 := Tryz.zeroValue3
  t9 := Tryz.underlying9
  a9 := Tryz.isAgg9
  z9 := Tryz.sizeOf9
  v9 := Tryz.zeroValue9
  t37 := Tryz.underlying68
  a37 := Tryz.isAgg68
  z37 := Tryz.sizeOf68
  v37 := Tryz.zeroValue68
  t70 := Tryz.underlying67
  a70 := Tryz.isAgg67
  z70 := Tryz.sizeOf67
  v70 := Tryz.zeroValue67
  t72 := Tryz.underlying70
  a72 := Tryz.isAgg70
  z72 := Tryz.sizeOf70
  v72 := Tryz.zeroValue70
  t127 := Tryz.underlying111
  a127 := Tryz.isAgg111
  z127 := Tryz.sizeOf111
  v127 := Tryz.zeroValue111 }
theorem extra169 : Go.Proofs.Builder.Extra Tryz.prog lays169_ren := {
  sizeBuilder := by kernel_rfl
  liesBuilder := by kernel_rfl
  t5 := Tryz.underlying5
  a5 := Tryz.isAgg5
  z5 := Tryz.sizeOf5
  v5 := Tryz.zeroValue5
  infoByte := by kernel_rfl
  cellsByte := by kernel_rfl
  sizeByte := by kernel_rfl
  neB5 := by decide }
theorem string_any (b : Nat) (l : List UInt8) (w : World) (h : Bld w b l) :
    Calls Tryz.prog 44 #[.pointer (some ⟨b, 0, none⟩)] w fun e w' => e = .returned (.string (bs l)) ∧ Below b w w' :=
  Go.Proofs.Any.Builder_String_any lays169 extra169 b b l w h (Nat.le_of_lt h.lt)
theorem blen_any (b : Nat) (l : List UInt8) (w : World) (h : Bld w b l) :
    Calls Tryz.prog 40 #[.pointer (some ⟨b, 0, none⟩)] w fun e w' => e = .returned (.int .i64 l.length) ∧ w' = w := by
  obtain ⟨p, hB, v, hbk, hown, hne⟩ : ∃ p, Lib.BuilderAt 70 5 b b p (Lib.byteCells l) w := by
    rcases h with h | h
    · exact ⟨_, h⟩
    · exact ⟨_, h⟩
  have c1 : w.cell? ⟨b, 1, none⟩ = some v := by rw [Lib.cell_of_heap hbk]; rfl
  rw [Lib.byteCells_length] at hown
  obtain ⟨ao, cap, rfl⟩ : ∃ ao cap, v = .slice ao l.length cap := by
    rcases hown.2 with ⟨hv, h0⟩ | ⟨g, cap, cur, hv, _⟩
    · rw [h0]; exact ⟨_, _, hv⟩
    · exact ⟨_, _, hv⟩
  go_enter Tryz.func40, Tryz.ntmps40
  go_wp2
  go_ret
  exact ⟨rfl, rfl⟩
end Go.Proofs.YtklpopmjpgdjnaaGreatDoor
namespace Go.Proofs.YtklpopmjpgdjnaaGreatDoor
open Go.RowKit
theorem idx7 (a0 a1 a2 a3 a4 a5 a6 : ByteArray) (k : Nat) (hk : k < 7) (w : World) :
    (Instr.index 173 (.agg #[.string a0, .string a1, .string a2, .string a3, .string a4, .string a5, .string a6]) (.int .i64 k)).run Tryz.prog w = .ok ([Value.string a0, .string a1, .string a2, .string a3, .string a4, .string a5, .string a6].getD k undef) w := by
  have h := run_underlying (P := Tryz.prog) Tryz.underlying173
  have h9 := Tryz.sizeOf9
  rcases (show k = 0 ∨ k = 1 ∨ k = 2 ∨ k = 3 ∨ k = 4 ∨ k = 5 ∨ k = 6 from by omega) with rfl | rfl | rfl | rfl | rfl | rfl | rfl
  all_goals simp [Instr.index, go_sem, h]
theorem idx4 (a0 a1 a2 a3 : ByteArray) (k : Nat) (hk : k < 4) (w : World) :
    (Instr.index 167 (.agg #[.string a0, .string a1, .string a2, .string a3]) (.int .i64 k)).run Tryz.prog w = .ok ([Value.string a0, .string a1, .string a2, .string a3].getD k undef) w := by
  have h := run_underlying (P := Tryz.prog) Tryz.underlying167
  have h9 := Tryz.sizeOf9
  rcases (show k = 0 ∨ k = 1 ∨ k = 2 ∨ k = 3 from by omega) with rfl | rfl | rfl | rfl
  all_goals simp [Instr.index, go_sem, h]
theorem idx4p (a0 a1 a2 a3 : Option Addr) (k : Nat) (hk : k < 4) (w : World) :
    (Instr.index 178 (.agg #[.pointer a0, .pointer a1, .pointer a2, .pointer a3]) (.int .i64 k)).run Tryz.prog w = .ok ([Value.pointer a0, .pointer a1, .pointer a2, .pointer a3].getD k undef) w := by
  have h := run_underlying (P := Tryz.prog) Tryz.underlying178
  have h9 := Tryz.sizeOf85
  rcases (show k = 0 ∨ k = 1 ∨ k = 2 ∨ k = 3 from by omega) with rfl | rfl | rfl | rfl
  all_goals simp [Instr.index, go_sem, h]
end Go.Proofs.YtklpopmjpgdjnaaGreatDoor
