/- find: the first free run of a class; a loop over the iterator runs. -/
import Derived.RangeFuncNested
import Derived.RangeFuncBound
import Derived.RangeFuncCalls
import Derived.RangeFuncLeaves
import Derived.RangeFuncFrom
import Derived.Shelf.Abstract
import Derived.Shelf.RegionOpen
import Derived.OwnWalkIn
import Derived.TacticsInMore
import Derived.LoopNIn
import Derived.LoopIn
import Derived.Sort.QuietIn
import Derived.Test.YtfmlgleeojblkaaBitsTurn
namespace Go.Proofs.Ytfmlgleeojblkaa
open Go.RowKit Go.Shelf
attribute [local go_sem] Oper.semAt_some

theorem cell_of_box_l {W : World} {B : Nat} {v : Value} {t : TypeId} (h : W.heap[B]? = some (.cells #[v] t (0, 0))) : W.cell? ⟨B, 0, none⟩ = some v ∧ W.frozen? ⟨B, 0, none⟩ = false := by
  constructor <;> simp [World.cell?, World.frozen?, h]
theorem cell_new_l (W : World) (v : Value) (t : TypeId) : (W.alloc (.cells #[v] t)).cell? ⟨W.heap.size, 0, none⟩ = some v ∧ (W.alloc (.cells #[v] t)).frozen? ⟨W.heap.size, 0, none⟩ = false :=
  cell_of_box_l (World.alloc_heap_new W _)
theorem cell_alloc_l {W : World} {a : Addr} {v : Value} (o : Obj) (h : W.cell? a = some v) : (W.alloc o).cell? a = some v := cell_kept h (World.grownBy_alloc W o none) (fun r e => by cases e)
theorem frozen_alloc_l {W : World} {a : Addr} {v : Value} (o : Obj) (h : W.cell? a = some v) (hf : W.frozen? a = false) : (W.alloc o).frozen? a = false := (frozen_kept h (World.grownBy_alloc W o none) (fun r e => by cases e)).trans hf

/-- where a run of K can begin among n -/
abbrev Spot (n K : Nat) := { x : Nat // x + K ≤ n }
def spots (n K : Nat) : List (Spot n K) := List.ofFn fun j : Fin (n / K) => ⟨j.1 * K, by
  have h := j.2
  have : (j.1 + 1) * K ≤ n := Nat.le_trans (Nat.mul_le_mul_right K h) (Nat.div_mul_le_self n K)
  rw [Nat.add_mul] at this; omega⟩
theorem spots_length (n K : Nat) : (spots n K).length = n / K := by simp [spots]
theorem spots_get (n K j : Nat) (h : j < (spots n K).length) : ((spots n K)[j]).1 = j * K := by simp [spots]
theorem spots_take (n K j : Nat) (h : j < (spots n K).length) : (spots n K).take (j + 1) = (spots n K).take j ++ [(spots n K)[j]] := by
  rw [List.take_succ_eq_append_getElem h]

theorem grown_drewN (w : World) (k : Nat) : w.grownBy (w.drewN k) none := ⟨rfl, rfl, rfl, Nat.le_refl _, fun _ _ _ => rfl⟩
theorem arithK (n K k : Nat) (h1 : 1 ≤ K) (h2 : K ≤ 16) (hn : n ≤ 16384) (hk : k ≤ n / K) :
    wrap64 (K : Int) = K ∧ wrap64 ((k : Int) * K + K) = k * K + K ∧ decide ((k : Int) * K + K ≤ n) = decide (k < n / K) := by
  have e : (k : Int) * K = ((k * K : Nat) : Int) := by simp
  have hkn : k * K ≤ n := Nat.le_trans (Nat.mul_le_mul_right _ hk) (Nat.div_mul_le_self n _)
  have hi := Nat.le_div_iff_mul_le (x := k + 1) (y := n) (k := K) h1
  rw [Nat.add_mul, Nat.one_mul] at hi
  rw [e]
  generalize k * K = y at *
  refine ⟨by unfold wrap64; omega, by unfold wrap64; omega, ?_⟩
  rw [decide_eq_decide]
  omega
theorem find_arith (n c k : Nat) (hc : c ≤ 4) (hn : n ≤ 16384) (hk : k ≤ n / 2 ^ c) :
    wrap64 (2 ^ c) = 2 ^ c ∧ wrap64 ((k : Int) * 2 ^ c + 2 ^ c) = (k : Int) * 2 ^ c + 2 ^ c ∧ decide ((k : Int) * 2 ^ c + 2 ^ c ≤ n) = decide (k < n / 2 ^ c) := by
  have h := arithK n (2 ^ c) k Nat.one_le_two_pow (Nat.pow_le_pow_right (by decide) hc : 2 ^ c ≤ 2 ^ 4) hn hk
  rw [Int.natCast_pow] at h
  exact h

theorem measureK (n K k : Nat) (h1 : 1 ≤ K) (hk : k < n / K) : n + 16 - ((k : Int) * K + K).toNat < n + 16 - (((k * K : Nat) : Int)).toNat := by
  have e : (k : Int) * K = ((k * K : Nat) : Int) := by simp
  have hi := Nat.le_div_iff_mul_le (x := k + 1) (y := n) (k := K) h1
  rw [Nat.add_mul, Nat.one_mul] at hi
  rw [e]
  generalize k * K = y at *
  omega
theorem find_measure (n c k : Nat) (hk : k < n / 2 ^ c) : n + 16 - (intOf (.int .i64 ((k : Int) * 2 ^ c + 2 ^ c))).toNat < n + 16 - (intOf (.int .i64 ((k * 2 ^ c : Nat) : Int))).toNat := by
  have h := measureK n (2 ^ c) k Nat.one_le_two_pow hk
  rw [Int.natCast_pow] at h
  exact h

set_option maxRecDepth 100000 in
set_option maxHeartbeats 1000000 in
theorem runs1_in (m : Nat) (l Bc Bb n₀ b g n : Nat) (T : Nat → Bool) (c : Nat) (hc : c ≤ 4) (J Jx : List (Spot n (2 ^ c)) → World → Prop)
    (hY : ∀ pre x W, J pre W → pre.length < (spots n (2 ^ c)).length → YieldAt Fence.wide (m - 1) Try.prog l #[.int .i64 x.1] W fun e W' =>
      (e = .returned (.bool true) ∧ J (pre ++ [x]) W' ∧ Below n₀ W W') ∨ (e = .returned (.bool false) ∧ Jx (pre ++ [x]) W'))
    (W : World) (hJ : AbidesFrom W.heap.size J) (h1 : W.cell? ⟨Bc, 0, none⟩ = some (.int .i64 c)) (h2 : W.cell? ⟨Bb, 0, none⟩ = some (.pointer (some ⟨b, 0, none⟩))) (hB : BitsAt W b g n T)
    (hBc : Bc < n₀) (hBb : Bb < n₀) (hb : b < n₀) (h0 : J [] W) :
    CallsIn Fence.wide m Try.prog 68 #[.func (.yield l) #[] #[], .pointer (some ⟨Bc, 0, none⟩), .pointer (some ⟨Bb, 0, none⟩)] W fun e W' => (∃ v, e = .returned v) ∧
      ((∃ ys, ys = spots n (2 ^ c) ∧ J ys W') ∨ (∃ pre, pre <+: spots n (2 ^ c) ∧ Jx pre W')) := by
  refine callsIn_of_wp Try.func68 rfl trivial ?_ rfl
  simp only [Try.ntmps68, List.size_toArray, List.length_cons, List.length_nil, Nat.reduceAdd, Nat.reduceSub, Array.replicate_succ, Array.replicate_zero, List.push_toArray, List.append_toArray, List.nil_append, List.cons_append]
  gi_wp2
  gi_loopw [4] (fun p wr => ∃ k : Nat, p = .int .i64 (k * 2 ^ c : Nat) ∧ k ≤ (spots n (2 ^ c)).length ∧ Below n₀ W wr ∧ J ((spots n (2 ^ c)).take k) wr)
    (fun p _ => n + 16 - (intOf p).toNat)
  case atStart =>
    exact ⟨0, by simp, Nat.zero_le _, Below.refl _ _, by simpa using h0⟩
  case round =>
    obtain ⟨k, rfl, hk, hbl, hJs⟩ := hrel
    have hz := hB.n2
    have k1 : wr.cell? ⟨Bc, 0, none⟩ = some (.int .i64 c) := (hbl.cell (p := ⟨Bc, 0, none⟩) hBc).trans h1
    have k2 : wr.cell? ⟨Bb, 0, none⟩ = some (.pointer (some ⟨b, 0, none⟩)) := (hbl.cell (p := ⟨Bb, 0, none⟩) hBb).trans h2
    have k3 : wr.cell? ⟨b, 0, none⟩ = some (.int .i64 n) := (hbl.cell (p := ⟨b, 0, none⟩) hb).trans ((cell_of hB.hb 0).trans rfl)
    have HB := Lib.hid hB; clear hB
    rw [spots_length] at hk
    obtain ⟨e1, e2, e3⟩ := find_arith n c k hc hz hk
    by_cases hlt : k < n / 2 ^ c
    · have t1 : decide ((k : Int) * 2 ^ c + 2 ^ c ≤ n) = true := by rw [e3]; simpa using hlt
      clear e3
      have hlt' : k < (spots n (2 ^ c)).length := by rw [spots_length]; exact hlt
      have HJ := Lib.hid hJ; clear hJ
      have HY := Lib.hid hY; clear hY
      gi_wp2
      gi_quiet (fail)
      have hJd : J ((spots n (2 ^ c)).take k) (wr.drewN nq) := HJ.out _ _ _ none hJs (grown_drewN _ _) (fun r e => by cases e)
      have hbl2 : Below n₀ W (wr.drewN nq) := ⟨hbl.os, hbl.tape, hbl.output, hbl.size, hbl.block⟩
      clear hJs hbl k1 k2 k3
      obtain ⟨fn, tmps, assign, body, hy, hR⟩ := HY.out ((spots n (2 ^ c)).take k) (spots n (2 ^ c))[k] (wr.drewN nq) hJd (by rw [List.length_take, spots_length]; omega)
      simp only [spots_get, Int.natCast_mul, Int.natCast_pow, Int.cast_ofNat_Int] at hy
      rw [← spots_take _ _ _ hlt'] at hR
      clear HY HJ hJd
      generalize wr.drewN nq = wd at *
      gi_wp2
      refine ⟨fun h => (by cases h), ?_⟩
      refine hR.mono ?_
      rintro e W3 (⟨rfl, hJ3, hk3⟩ | ⟨rfl, hJx3⟩)
      · have hbl3 : Below n₀ W W3 := hbl2.trans hk3
        clear hbl2 hk3
        have k1 : W3.cell? ⟨Bc, 0, none⟩ = some (.int .i64 c) := (hbl3.cell (p := ⟨Bc, 0, none⟩) hBc).trans h1
        gi_wp2
        go_roundw
        case rel => exact ⟨k + 1, by rw [Nat.add_mul]; simp; exact e2, by omega, hbl3, hJ3⟩
        case measure => rw [e2]; exact find_measure n c k hlt
      · gi_wp2
        refine bodyPost_ret (results_none rfl _ _ _) rfl ?_
        exact ⟨⟨_, rfl⟩, .inr ⟨_, List.take_prefix _ _, hJx3⟩⟩
    · have t1 : decide ((k : Int) * 2 ^ c + 2 ^ c ≤ n) = false := by rw [e3]; simpa using hlt
      clear e3
      have HJ := Lib.hid hJ; clear hJ
      have HY := Lib.hid hY; clear hY
      gi_wp2
      gi_quiet (fail)
      gi_wp2
      go_end0
      have hJd : J ((spots n (2 ^ c)).take k) (wr.drewN nq) := HJ.out _ _ _ none hJs (grown_drewN _ _) (fun r e => by cases e)
      rw [List.take_of_length_le (by rw [spots_length]; omega)] at hJd
      exact ⟨⟨_, rfl⟩, .inl ⟨_, rfl, hJd⟩⟩

theorem runs_any (a : Option Addr) (c : Int) (w : World) : Calls Try.prog 64 #[.pointer a, .int .i64 c] w fun e w' =>
    e = .returned (.func (.func 68) #[] #[.pointer (some ⟨w.heap.size + 1, 0, none⟩), .pointer (some ⟨w.heap.size, 0, none⟩)]) ∧ w' = (w.alloc (.cells #[.pointer a] 39)).alloc (.cells #[.int .i64 c] 3) := by
  go_enter Try.func64, Try.ntmps64
  go_wp2
  go_ret
  exact ⟨rfl, rfl⟩

theorem runs_stops (m Bc Bb n₀ b g n : Nat) (T : Nat → Bool) (c : Nat) (hc : c ≤ 4) (w : World) (hn₀ : n₀ ≤ w.heap.size) (h1 : w.cell? ⟨Bc, 0, none⟩ = some (.int .i64 c)) (h2 : w.cell? ⟨Bb, 0, none⟩ = some (.pointer (some ⟨b, 0, none⟩))) (hB : BitsAt w b g n T)
    (hBc : Bc < n₀) (hBb : Bb < n₀) (hb : b < n₀) :
    SeqStopsK Fence.wide m Try.prog 68 #[.pointer (some ⟨Bc, 0, none⟩), .pointer (some ⟨Bb, 0, none⟩)] (fun x : Spot n (2 ^ c) => #[Value.int .i64 x.1]) (Below n₀)
      (fun ys => ys = spots n (2 ^ c)) (fun pre => pre <+: spots n (2 ^ c)) (spots n (2 ^ c)).length w := fun l J Jx W hW hJ _ hY h0 =>
  runs1_in m l Bc Bb n₀ b g n T c hc J Jx hY W hJ ((hW.cell (p := ⟨Bc, 0, none⟩) (Nat.lt_of_lt_of_le hBc hn₀)).trans h1) ((hW.cell (p := ⟨Bb, 0, none⟩) (Nat.lt_of_lt_of_le hBb hn₀)).trans h2)
    (hB.mod (Mod.of_below (S := fun _ => False) hW) (fun x => x) (fun x => x)) hBc hBb hb h0

def isFree (T : Nat → Bool) (n K : Nat) (x : Spot n K) : Bool := areT T x.1 K false
/-- where the first free run begins, or -1 -/
def findT (n : Nat) (T : Nat → Bool) (c : Nat) : Int := match (spots n (2 ^ c)).find? (isFree T n (2 ^ c)) with | some x => x.1 | none => -1

theorem findT_none (n : Nat) (T : Nat → Bool) (c : Nat) (h : ∀ y ∈ spots n (2 ^ c), isFree T n (2 ^ c) y = false) : findT n T c = -1 := by
  unfold findT
  rw [List.find?_eq_none.2 (fun y hy => by rw [h y hy]; exact Bool.false_ne_true)]
theorem findT_some (n : Nat) (T : Nat → Bool) (c : Nat) (pre : List (Spot n (2 ^ c))) (x : Spot n (2 ^ c)) (hp : pre ++ [x] <+: spots n (2 ^ c)) (h : ∀ y ∈ pre, isFree T n (2 ^ c) y = false) (hx : isFree T n (2 ^ c) x = true) : findT n T c = x.1 := by
  obtain ⟨r, hr⟩ := hp
  unfold findT
  rw [← hr, List.append_assoc, List.find?_append, List.find?_eq_none.2 (fun y hy => by rw [h y hy]; exact Bool.false_ne_true)]
  simp [hx]
theorem boxes5 (w : World) (x1 x2 x3 x4 x5 : Value) (t1 t2 t3 t4 t5 : TypeId) (W : World)
    (hW : (((((w.alloc (.cells #[x1] t1)).alloc (.cells #[x2] t2)).alloc (.cells #[x3] t3)).alloc (.cells #[x4] t4)).alloc (.cells #[x5] t5)) = W) :
    W.heap[w.heap.size]? = some (.cells #[x1] t1) ∧ W.heap[w.heap.size + 1]? = some (.cells #[x2] t2) ∧ W.heap[w.heap.size + 2]? = some (.cells #[x3] t3) ∧ W.heap[w.heap.size + 3]? = some (.cells #[x4] t4) ∧ W.heap[w.heap.size + 4]? = some (.cells #[x5] t5) ∧
      W.heap.size = w.heap.size + 5 ∧ Mod (fun _ => False) w W := by
  subst hW
  refine ⟨alloc_keep (alloc_keep (alloc_keep (alloc_keep (new_at _ _)))), alloc_keep (alloc_keep (alloc_keep (new_at' _ _ _ (by simp)))), alloc_keep (alloc_keep (new_at' _ _ _ (by simp))), alloc_keep (new_at' _ _ _ (by simp)), new_at' _ _ _ (by simp), by simp, ?_⟩
  exact (((((Mod.refl _ w).alloc _).alloc _).alloc _).alloc _).alloc _

set_option maxRecDepth 100000 in
set_option maxHeartbeats 2000000 in
theorem find_any (b g n : Nat) (T : Nat → Bool) (c : Nat) (hc : c ≤ 4) (w : World) (hBits : BitsAt w b g n T) :
    Calls Try.prog 50 #[.pointer (some ⟨b, 0, none⟩), .int .i64 c] w fun e W' => e = .returned (.int .i64 (findT n T c)) ∧ Mod (fun _ => False) w W' := by
  refine (callsIn_wide (n := 6)).1 ?_
  refine callsIn_of_wp_marks Try.func50 rfl trivial ?_ rfl
  simp only [Try.ntmps50, List.size_toArray, List.length_cons, List.length_nil, Nat.reduceAdd, Nat.reduceSub, Array.replicate_succ, Array.replicate_zero, List.push_toArray, List.append_toArray, List.nil_append, List.cons_append]
  gi_wp2_with (refine ⟨trivial, ?_⟩; gi_at_call 64; refine (callsIn_wide.2 (runs_any _ _ _)).mono ?_; rintro e w' ⟨rfl, rfl⟩)
  obtain ⟨W0, hW0⟩ : ∃ W0, (((((w.alloc (.cells #[.pointer (some ⟨b, 0, none⟩)] 39)).alloc (.cells #[.int .i64 c] 3)).alloc (.cells #[.int .i64 0] 3)).alloc (.cells #[.pointer (some ⟨b, 0, none⟩)] 39)).alloc (.cells #[.int .i64 c] 3)) = W0 := ⟨_, rfl⟩
  obtain ⟨b1, b2, b3, b4, b5, hsz, hM0⟩ := boxes5 _ _ _ _ _ _ _ _ _ _ _ _ hW0
  rw [hW0]
  clear hW0
  have hB0 : BitsAt W0 b g n T := hBits.mod hM0 (fun x => x) (fun x => x)
  have hbl : b < w.heap.size := lt_of hBits.hb
  have hgl : g < w.heap.size := lt_of hBits.hg
  have c1 : W0.cell? ⟨w.heap.size, 0, none⟩ = some (.pointer (some ⟨b, 0, none⟩)) := (cell_of b1 0).trans rfl
  have c2 : W0.cell? ⟨w.heap.size + 1, 0, none⟩ = some (.int .i64 c) := (cell_of b2 0).trans rfl
  have c3 : W0.cell? ⟨w.heap.size + 1 + 1, 0, none⟩ = some (.int .i64 0) := (cell_of b3 0).trans rfl
  have c3f : W0.frozen? ⟨w.heap.size + 1 + 1, 0, none⟩ = false := free_of b3 0
  have c4 : W0.cell? ⟨w.heap.size + 1 + 1 + 1, 0, none⟩ = some (.pointer (some ⟨b, 0, none⟩)) := (cell_of b4 0).trans rfl
  have c5 : W0.cell? ⟨w.heap.size + 1 + 1 + 1 + 1, 0, none⟩ = some (.int .i64 c) := (cell_of b5 0).trans rfl
  refine wpIn_rangeFunc_ownF rfl (by decide) (gf := 68) (lb := #[.pointer (some ⟨w.heap.size + 1 + 1 + 1 + 1, 0, none⟩), .pointer (some ⟨w.heap.size + 1 + 1 + 1, 0, none⟩)]) rfl trivial (enters_of Try.func68 (by kernel_rfl) rfl)
    (runs_stops (6 - 1) (w.heap.size + 1 + 1 + 1 + 1) (w.heap.size + 1 + 1 + 1) W0.heap.size b g n T c hc W0 (Nat.le_refl _) c5 c4 hB0 (by omega) (by omega) (by omega)) belowK_t (belowK_b (Nat.le_refl _)) (Below.refl _ _) (fun _ => rfl)
    (fun pre W => (∀ y ∈ pre, isFree T n (2 ^ c) y = false) ∧ Below W0.heap.size W0 W)
    (fun cd pre W => ((cd = .ret ∧ ∃ pre' x, pre = pre' ++ [x] ∧ (∀ y ∈ pre', isFree T n (2 ^ c) y = false) ∧ isFree T n (2 ^ c) x = true ∧ W.cell? ⟨w.heap.size + 1 + 1, 0, none⟩ = some (.int .i64 x.1)) ∧ Below w.heap.size W0 W))
    (OwnFrom.and (ownFrom_pure _ _) (ownFrom_below (Nat.le_refl _) (Nat.le_refl _)))
    (fun cd => OwnFrom.and (Own.from (fun s A B row hs hg hr => ⟨hs.1, by obtain ⟨p', x, h1, h2, h3, h4⟩ := hs.2; exact ⟨p', x, h1, h2, h3, cell_kept h4 hg hr⟩⟩) _) (ownFrom_below (by omega) (by omega)))
    ⟨by simp, Below.refl _ _⟩
    (fun x => { tmps := #[.pointer (some ⟨b, 0, none⟩), .int .i64 c, .pointer (some ⟨w.heap.size, 0, none⟩), .pointer (some ⟨w.heap.size + 1, 0, none⟩), .pointer (some ⟨w.heap.size + 1 + 1, 0, none⟩), .int .i64 x.1, .pointer (some ⟨b, 0, none⟩), .int .i64 c,
      .func (.func 68) #[] #[.pointer (some ⟨w.heap.size + 1 + 1 + 1 + 1, 0, none⟩), .pointer (some ⟨w.heap.size + 1 + 1 + 1, 0, none⟩)], .int .i64 x.1, undef, undef, undef, undef, undef, undef, undef], defers := [] }) ?assign ?body ?done ?stop
  case assign =>
    intro l x W K hK
    gi_wp2
    exact hK
  case body =>
    rintro l pre x W ⟨hp, hB⟩ _
    have k1 : W.cell? ⟨w.heap.size, 0, none⟩ = some (.pointer (some ⟨b, 0, none⟩)) := (hB.cell (p := ⟨w.heap.size, 0, none⟩) (by simp; omega)).trans c1
    have k2 : W.cell? ⟨w.heap.size + 1, 0, none⟩ = some (.int .i64 c) := (hB.cell (p := ⟨w.heap.size + 1, 0, none⟩) (by simp; omega)).trans c2
    have k3 : W.cell? ⟨w.heap.size + 1 + 1, 0, none⟩ = some (.int .i64 0) := (hB.cell (p := ⟨w.heap.size + 1 + 1, 0, none⟩) (by simp; omega)).trans c3
    have k3f : W.frozen? ⟨w.heap.size + 1 + 1, 0, none⟩ = false := (hB.frozen (p := ⟨w.heap.size + 1 + 1, 0, none⟩) (by simp; omega)).trans c3f
    have hBW : BitsAt W b g n T := hB0.mod (S := fun _ => False) (Mod.of_below hB) (fun x => x) (fun x => x)
    have hA := are_any b g n T x.1 (2 ^ c) false W hBW x.2
    rw [Int.natCast_pow] at hA
    have e1 := (find_arith n c 0 hc hBW.n2 (Nat.zero_le _)).1
    have HB := Lib.hid hBW; clear hBW
    by_cases hx : isFree T n (2 ^ c) x = true
    · rw [show areT T x.1 (2 ^ c) false = true from hx] at hA
      gi_wp2_with (refine ⟨trivial, ?_⟩; gi_at_call 65; refine (CallsIn.inRound l (callsIn_wide.2 hA)).mono ?_; rintro e w' ⟨rfl, rfl⟩)
      exact ⟨KeepsOthers.setCell _ _ _, ⟨rfl, pre, x, rfl, hp, hx, World.cell?_setCell_same' _ _ _ (by rw [k3]; rfl)⟩, (hB.mono (by omega)).setCell (p := ⟨w.heap.size + 1 + 1, 0, none⟩) (by simp; omega) _⟩
    · rw [show areT T x.1 (2 ^ c) false = false from Bool.eq_false_iff.2 hx] at hA
      gi_wp2_with (refine ⟨trivial, ?_⟩; gi_at_call 65; refine (CallsIn.inRound l (callsIn_wide.2 hA)).mono ?_; rintro e w' ⟨rfl, rfl⟩)
      exact ⟨KeepsOthers.refl _, Below.refl _ _, ⟨fun y hy => (List.mem_append.1 hy).elim (hp y) (fun e => by simp at e; subst e; exact Bool.eq_false_iff.2 hx), hB⟩⟩
  case done =>
    rintro D ys W hD rfl ⟨hne, hB⟩ hK
    have k3 : W.cell? ⟨w.heap.size + 1 + 1, 0, none⟩ = some (.int .i64 0) := (hB.cell (p := ⟨w.heap.size + 1 + 1, 0, none⟩) (by simp; omega)).trans c3
    have k3f : W.frozen? ⟨w.heap.size + 1 + 1, 0, none⟩ = false := (hB.frozen (p := ⟨w.heap.size + 1 + 1, 0, none⟩) (by simp; omega)).trans c3f
    gi_wp2
    have hK' := (KeepsOthers.setCell W ⟨w.heap.size + 1 + 1, 0, none⟩ (.int .i64 (-1))).same D _ hK rfl
    refine ⟨by simp, .inl ⟨_, _, rfl, run_takeDeferred hK', ?_⟩⟩
    have hc5 := cell_kept (World.cell?_setCell_same' W ⟨w.heap.size + 1 + 1, 0, none⟩ (.int .i64 (-1)) (by rw [k3]; rfl)) (grownBy_putObj' _ D (.deferred none)) (fun r e => by cases e; exact ⟨_, hK', rfl⟩)
    refine ⟨.int .i64 (-1), ?_, by rw [findT_none n T c hne], Mod.of_below ((hM0.below.trans ((hB.mono (by omega)).setCell (p := ⟨w.heap.size + 1 + 1, 0, none⟩) (by simp; omega) _)).trans (belowK_b (w := w) (Nat.le_refl _) _ D _ _ (by omega) hK' rfl rfl))⟩
    simp [results, Try.f50, go_sem, hc5]
  case stop =>
    rintro D cd pre W hD hpre ⟨⟨rfl, pre', x, rfl, hp, hx, hcr⟩, hB⟩ hK
    gi_wp2
    refine ⟨by simp, .inl ⟨_, _, rfl, run_takeDeferred hK, ?_⟩⟩
    have hc5 := cell_kept hcr (grownBy_putObj' _ D (.deferred none)) (fun r e => by cases e; exact ⟨_, hK, rfl⟩)
    refine ⟨.int .i64 x.1, ?_, by rw [findT_some n T c pre' x hpre hp hx], Mod.of_below ((hM0.below.trans hB).trans (belowK_b (w := w) (Nat.le_refl _) _ D _ _ (by omega) hK rfl rfl))⟩
    simp [results, Try.f50, go_sem, hc5]
end Go.Proofs.Ytfmlgleeojblkaa
