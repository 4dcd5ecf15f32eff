/- The law ModelGuards, walked. -/
import Derived.Test.YtkcnbbjmkkaolaaGreatDoorQG18
import Derived.Test.YtkcnbbjmkkaolaaGreatDoorQG14
import Derived.Test.YtkcnbbjmkkaolaaGreatDoorQG00
set_option linter.unusedVariables false
set_option linter.unusedSimpArgs false
namespace Go.Proofs.YtkcnbbjmkkaolaaGreatDoor
open Go.RowKit

theorem guard_step {a : ByteArray} {T : Tr} (hf : WF T) (h : Grd a T) (s : SpM) (hw : s.who ≠ a) (h6 : s.dof ≠ 6) : (stepT T s).1 = T := by
  unfold stepT
  split
  · rfl
  split
  · rfl
  split
  · exact grd_openS h hw _ _ _
  split
  · exact grd_createS h hw _ _ _ _ _
  split
  · rfl
  split
  · rfl
  split
  · exact grd_removeS hf h hw _ _
  · exact grd_wstatS hf h hw _ _ _
def gB0 : Tr := newT annB 0
def gB1 : Tr := (createT gB0 1 ⟨#[100]⟩ 2147484141 0 annB 1).1
def gB2 (perm : Nat) : Tr := (createT gB1 2 ⟨#[102]⟩ (perm &&& 493) 0 annB 2).1
def gB3 (perm : Nat) : Tr := (writeT (gB2 perm) 3 0 ⟨#[98, 121, 116, 101, 115]⟩ annB 3).1
def gB4 (perm : Nat) : Tr := (createT (gB3 perm) 1 ⟨#[103]⟩ 420 0 annB 4).1
theorem gB0_last : gB0.last = 1 := rfl
theorem gB1_last : gB1.last ≤ 2 := create_last _ _ _ _ _ _
theorem gB2_last (perm : Nat) : (gB2 perm).last ≤ 3 := by
  have h1 := create_last (T := gB1) 2 ⟨#[102]⟩ annB (perm &&& 493) 0 2
  have h2 := gB1_last
  unfold gB2; omega
theorem gB3_last (perm : Nat) : (gB3 perm).last ≤ 3 := by
  unfold gB3; rw [write_last]; exact gB2_last perm
theorem gB0_wf : WF gB0 := new_wf (by decide) (by decide)
theorem gB4_grd (perm : Nat) : Grd annB (gB4 perm) := by
  have h1 : Grd annB gB1 := grd_create (grd_new annB 0) 1 _ _ 0 1 (by decide)
  have h2 : Grd annB (gB2 perm) := grd_create h1 2 _ _ 0 2 (by rw [Nat.and_assoc]; exact Nat.and_zero perm)
  have h3 : Grd annB (gB3 perm) := grd_write h2 3 0 _ annB 3
  exact grd_create h3 1 _ _ 0 4 (by decide)
/-- the package's tree alone -/
def Pt (W w : World) (b cnt : Nat) (T : Tr) : Prop := ∃ ρ mb am vk, PTreeP w ρ b mb cnt T am vk ∧ WF T ∧ Mod (fun _ => False) W w ∧ ∀ k, ρ k ≠ .none → W.heap.size ≤ k
theorem Pt.m {W w : World} {b cnt : Nat} {T : Tr} (h : Pt W w b cnt T) : Mod (fun _ => False) W w := by
  obtain ⟨_, _, _, _, _, _, m, _⟩ := h; exact m
theorem pt_create {W w : World} {b cnt : Nat} {T : Tr} (h : Pt W w b cnt T) (hT : Tabs W) (hc : cnt < 1000000) (p : Nat) (name : ByteArray) (perm m : Nat) (who : ByteArray) (now : Nat) (hp : p < 18446744073709551616) (hp2 : perm < 4294967296) (hm : m < 256) (hn : name.size ≤ 65536) (hw : who.size ≤ 65536) (ht : now < 4294967296) (hl : T.last + 1 < 18446744073709551616) :
    Calls Tryz.prog 22 #[.pointer (some ⟨b, 0, none⟩), .int .u64 p, .string name, .int .u32 perm, .int .u8 m, .string who, .int .u32 now] w fun e w' => ∃ q : Array Value, e = .returned (.tuple q) ∧ Pt W w' b (cnt + 1) (createT T p name perm m who now).1 := by
  obtain ⟨ρ, mb, am, vk, h1, h2, h3, h4⟩ := h
  refine (pcreate_any h1 h2 hc p name perm m who now hp hp2 hm hn hw hl (hT.mod h3)).mono fun e w' x => ?_
  obtain ⟨x1, ρ', am', vk', x2, x3, x4⟩ := x
  refine ⟨_, x1, ρ', mb, am', vk', x2, create_wf h2 p perm m hn hw ht hl, h3.trans' x3 fun k hk e => by have := h4 k e; omega, fun k hk => ?_⟩
  rcases x4 k hk with y | y
  · exact h4 k y
  · have := h3.size; omega
theorem pt_write {W w : World} {b cnt : Nat} {T : Tr} (h : Pt W w b cnt T) (p off : Nat) (d who : ByteArray) (now : Nat) (hp : p < 18446744073709551616) (ho : off < 18446744073709551616) (hd : d.size ≤ 131072) (hw : who.size ≤ 65536) (ht : now < 4294967296) :
    Calls Tryz.prog 23 #[.pointer (some ⟨b, 0, none⟩), .int .u64 p, .int .u64 off, .string d, .string who, .int .u32 now] w fun e w' => ∃ q : Array Value, e = .returned (.tuple q) ∧ Pt W w' b cnt (writeT T p off d who now).1 := by
  obtain ⟨ρ, mb, am, vk, h1, h2, h3, h4⟩ := h
  refine (pwrite_any h1 h2 p off d who now hp ho (by omega)).mono fun e w' x => ?_
  obtain ⟨x1, x2, x3⟩ := x
  exact ⟨_, x1, ρ, mb, am, vk, x2, write_wf h2 p off d hw ht, h3.trans' x3 fun k hk e => by have := h4 k e; omega, h4⟩
theorem bob_ne : (⟨#[98, 111, 98]⟩ : ByteArray) ≠ annB := by decide
theorem ann_list : annB.toList = [97, 110, 110] := by rw [ByteArray.toList_eq]; rfl
set_option maxHeartbeats 16000000 in
set_option maxRecDepth 100000 in
theorem guards_walk (v : Value) (l : List SpM) (perm : Nat) (W : World) (hv : RecsAt SpM.cells 23 W (fun _ => True) v l) (hok : ∀ s ∈ l, s.Ok) (hrc : ∀ s ∈ l, s.Rc) (hlen : l.length ≤ 140737488355328) (hpm : perm < 4294967296) (hT : Tabs W) :
    Calls Tryz.prog 5 #[v, .int .u32 perm] W fun e w' => e = .returned (.bool true) ∧ Mod (fun _ => False) W w' := by
  have hH := heavy_any v l W hv hrc hlen
  obtain ⟨va, vc, rfl, hvc, hx⟩ := hv.form
  have HX := Lib.hid hx
  have HT := Lib.hid hT
  have HOk := Lib.hid hok
  clear hv hrc hx hT hok
  go_enter Tryz.func5, Tryz.ntmps5
  go_wp2_with fail
  refine hH.mono ?_
  rintro e w1 ⟨bh, rfl, hbh, m1⟩
  have M1 : Hid (Mod (fun _ => False) W w1) := m1
  have HB := Lib.hid hbh
  clear hH m1 hbh
  cases bh with
  | true => go_wp2_with fail
            refine (works_any w1 (HT.out.mod (M1).out)).mono ?_
            rintro e w9 ⟨rfl, m9⟩
            have M9 : Hid (Mod (fun _ => False) W w9) := (M1).out.trans m9
            clear m9
            go_wp2
            go_ret
            exact ⟨rfl, M9.out⟩
  | false =>
  obtain ⟨hl120, hlt⟩ := HB.out rfl
  have HLt := Lib.hid hlt
  clear HB hlt
  have hN : Calls Tryz.prog 10 #[.string ⟨#[97, 110, 110]⟩, .int .u32 0] w1 fun e w' => ∃ b, e = .returned (.tuple #[.pointer (some ⟨b, 0, none⟩), .int .i64 0]) ∧ Pt W w' b 1 gB0 :=
    (pnew_any annB 0 w1 (by decide) (HT.out.mod M1.out)).mono fun e w' x => by
      obtain ⟨b, ρ, mb, am, vk, y1, y2, y3, y4⟩ := x.2 wk_ann
      exact ⟨b, y1, ρ, mb, am, vk, y2, gB0_wf, M1.out.trans y3, fun k hk => Nat.le_trans M1.out.size (y4 k hk)⟩
  go_wp2_with fail
  refine hN.mono ?_
  rintro e w2 ⟨b, rfl, hp2⟩
  have hC1 : Calls Tryz.prog 22 #[.pointer (some ⟨b, 0, none⟩), .int .u64 1, .string ⟨#[100]⟩, .int .u32 2147484141, .int .u8 0, .string ⟨#[97, 110, 110]⟩, .int .u32 1] w2 fun e w' => ∃ q : Array Value, e = .returned (.tuple q) ∧ Pt W w' b (1 + 1) gB1 :=
    pt_create hp2 HT.out (by decide) 1 ⟨#[100]⟩ 2147484141 0 annB 1 (by decide) (by decide) (by decide) (by decide) (by decide) (by decide) (by rw [gB0_last]; decide)
  clear hN hp2
  go_wp2_with fail
  refine hC1.mono ?_
  rintro e w3 ⟨q1, rfl, hp3⟩
  have hz493 : bits .and .u32 (perm : Int) 493 = ((perm &&& 493 : Nat) : Int) := u32_and_nat perm 493 hpm (by decide)
  have hpl : perm &&& 493 < 4294967296 := by have : perm &&& 493 ≤ 493 := Nat.and_le_right; omega
  have hC2 : Calls Tryz.prog 22 #[.pointer (some ⟨b, 0, none⟩), .int .u64 2, .string ⟨#[102]⟩, .int .u32 ((perm &&& 493 : Nat) : Int), .int .u8 0, .string ⟨#[97, 110, 110]⟩, .int .u32 2] w3 fun e w' => ∃ q : Array Value, e = .returned (.tuple q) ∧ Pt W w' b (2 + 1) (gB2 perm) :=
    pt_create hp3 HT.out (by decide) 2 ⟨#[102]⟩ (perm &&& 493) 0 annB 2 (by decide) hpl (by decide) (by decide) (by decide) (by decide) (by have := gB1_last; omega)
  obtain ⟨pq, hpq⟩ : ∃ q : Nat, perm &&& 493 = q := ⟨_, rfl⟩
  rw [hpq] at hz493 hC2
  clear hC1 hp3 hpl hpq
  go_wp2_with fail
  refine hC2.mono ?_
  rintro e w4 ⟨q2, rfl, hp4⟩
  have hW1 : Calls Tryz.prog 23 #[.pointer (some ⟨b, 0, none⟩), .int .u64 3, .int .u64 0, .string ⟨#[98, 121, 116, 101, 115]⟩, .string ⟨#[97, 110, 110]⟩, .int .u32 3] w4 fun e w' => ∃ q : Array Value, e = .returned (.tuple q) ∧ Pt W w' b (2 + 1) (gB3 perm) :=
    pt_write hp4 3 0 ⟨#[98, 121, 116, 101, 115]⟩ annB 3 (by decide) (by decide) (by decide) (by decide) (by decide)
  clear hC2 hp4
  go_wp2_with fail
  refine hW1.mono ?_
  rintro e w5 ⟨q3, rfl, hp5⟩
  have hC3 : Calls Tryz.prog 22 #[.pointer (some ⟨b, 0, none⟩), .int .u64 1, .string ⟨#[103]⟩, .int .u32 420, .int .u8 0, .string ⟨#[97, 110, 110]⟩, .int .u32 4] w5 fun e w' => ∃ q : Array Value, e = .returned (.tuple q) ∧ Pt W w' b (3 + 1) (gB4 perm) :=
    pt_create hp5 HT.out (by decide) 1 ⟨#[103]⟩ 420 0 annB 4 (by decide) (by decide) (by decide) (by decide) (by decide) (by decide) (by have := gB3_last perm; omega)
  clear hW1 hp5
  go_wp2_with fail
  refine hC3.mono ?_
  rintro e w6 ⟨q4, rfl, hp6⟩
  have HG0 := Lib.hid (gB4_grd perm)
  have hlT4 : (gB4 perm).last + 1 < 18446744073709551616 := by
    have h1 := gB3_last perm
    have h2 := create_last (T := gB3 perm) 1 ⟨#[103]⟩ annB 420 0 4
    unfold gB4; omega
  clear hC3 hz493
  generalize gB4 perm = T4 at *
  obtain ⟨ρ, mb, am, vk, hp, hwf, hm, hr⟩ := hp6
  have HP6 := Lib.hid hp
  have HWF := Lib.hid hwf
  have HM6 := Lib.hid hm
  have HR6 := Lib.hid hr
  have hA := pall_any hp hwf (by decide)
  clear hp hwf hm hr
  go_wp2_with fail
  refine hA.mono ?_
  rintro e w7 ⟨v0, rfl, hv0, m7⟩
  have HV0 := Lib.hid hv0
  have M7 := Lib.hid m7
  have hR : Calls Tryz.prog 15 #[.string ⟨#[97, 110, 110]⟩, .int .u32 0] w7 fun e w' => ∃ b F g cap vks, e = .returned (.pointer (some ⟨b, 0, none⟩)) ∧ RTreeP w' F b gB0 g cap vks ∧ Mod (fun _ => False) w7 w' ∧ ∀ k, F k → w7.heap.size ≤ k := rNew_any annB 0 w7
  clear hA m7 hv0
  go_wp2_with fail
  refine hR.mono ?_
  rintro e w8 ⟨b', F, g, cap, vks, rfl, hr8, m8, hf8⟩
  have hTw : TwoT w8 ρ F b b' 4 T4 gB0 := TwoT.init HP6.out M7.out hr8 m8 hf8 HWF.out gB0_wf
  have hM8 : Mod (fun _ => False) W w8 := (HM6.out.trans M7.out).trans m8
  have hBs : Bse W w8 ρ F := ⟨HT.out, hM8, fun k hk => by
    rcases hk with x | x
    · exact HR6.out k x
    · exact Nat.le_trans (HM6.out.trans M7.out).size (hf8 k x)⟩
  have HS0 : Hid (Sc W w8 ρ F w8 b b' 4 T4 gB0) := ⟨ρ, F, hTw, hBs, TwM.refl _ _ _⟩
  have HV8 : Hid (FlAt w8 (fun k => ¬ Foot ρ k ∧ ¬ F k) v0 (allT T4)) := by
    rcases HV0.out with h | ⟨g0, off, cap0, h1, h2, h3, h4, h5⟩
    · exact .inl h
    · refine .inr ⟨g0, off, cap0, h1, ⟨fun x => ?_, fun x => ?_⟩, Nat.lt_of_lt_of_le h3 m8.size, h4, fun j s hj i u hu => keepN m8 (h5 j s hj i u hu)⟩
      · have := HP6.out.lt _ x
        omega
      · have := hf8 _ x
        omega
  have HLn := Lib.hid (allT_len HWF.out)
  have HU0 := gB0_last
  have HG := HG0
  clear hR m8 hr8 hf8 hTw hBs HG0 M1 HV0 HP6 M7 HM6 HR6 hM8
  generalize gB0 = U0 at *
  have HU := Lib.hid HU0
  clear HU0
  go_wp2
  go_loopw [9, 10] (fun i _ wr => ∃ (k : Nat) (U : Tr), k ≤ l.length ∧ i = .int .i64 k ∧ U.last ≤ 1 + k ∧ Hid (Sc W w8 ρ F wr b b' (k + 4) T4 U)) (fun i _ _ => l.length - (intOf i).toNat)
  case atStart => exact ⟨0, U0, Nat.zero_le _, rfl, by rw [HU.out]; exact Nat.le_refl _, HS0⟩
  case round =>
    obtain ⟨k, U, hk, rfl, hul, HS⟩ := hrel
    by_cases hlt : k < l.length
    · obtain ⟨g1, o1, rfl, _, hg1, hc1⟩ := HX.out k l[k] (List.getElem?_eq_getElem hlt)
      have hsk := HOk.out l[k] (List.getElem_mem hlt)
      have hsl := HLt.out l[k] (List.getElem_mem hlt)
      generalize l[k] = s at *
      have hr1 : wr.rangeAt g1 (o1 + k * 23) s.cells := rec_rng hg1 hc1 HS.out.m
      have hsn := sp_len s
      have hone := sp_one s
      have t2 : decide ((k : Int) < (l.length : Int)) = true := by simp; omega
      have t2' : decide (k < l.length) = true := by simp; omega
      have i1 : (0 : Int) ≤ (k : Int) := by omega
      have i2 : (k : Int) < (l.length : Int) := by omega
      have i3 : (l.length : Int) ≤ (vc : Int) := by omega
      clear hc1
      go_upto_region 16 with (first | refine wpList_load_mid rfl 44 (.tmp 45) rfl g1 (o1 + k * 23) rfl s.cells _ hr1 Tryz.underlying44 rfl (by kernel_rfl) ?_ | (refine wpl_store_row rfl 44 (.tmp 10) (.tmp 46) rfl rfl wr.heap.size s.cells rfl rfl 44 _ (new_at _ _) rfl hone (by kernel_rfl) ?_; intro V1 hd1 md1))
      have MV0 : Hid (Mod (fun _ => False) wr V1) := ((Mod.refl (fun _ => False) wr).alloc _).trans' md1 fun k hk e => by omega
      have HA1 : Hid (wr.heap.size < V1.heap.size) := lt_of hd1
      obtain ⟨a1, ha1⟩ : ∃ a, wr.heap.size = a := ⟨_, rfl⟩
      rw [ha1] at hd1
      simp only [ha1]
      have HE1 := Lib.hid ha1
      have c0 : V1.cell? ⟨a1, 0, none⟩ = some (.int .i64 s.dof) := (cell_of hd1 0).trans rfl
      have c3 : V1.cell? ⟨a1, 3, none⟩ = some (.string s.who) := (cell_of hd1 3).trans rfl
      have f3 : V1.frozen? ⟨a1, 3, none⟩ = false := free_of hd1 3
      have HD1 : Hid (V1.heap[a1]? = some (.cells s.cells.toArray 44 (0, 0))) := hd1
      clear hr1 hone md1 hd1 ha1
      by_cases h6 : s.dof = 6
      · have t6 : (s.dof == 6) = true := by simpa using h6
        have HS2 : Hid (Sc W w8 ρ F V1 b b' (k + 1 + 4) T4 U) := by
          obtain ⟨ρ9, G9, y1, y2, y3⟩ := HS.out.do0 MV0.out
          exact ⟨ρ9, G9, y1.mono (by omega), y2, y3⟩
        clear h6
        go_wp2
        go_roundw
        case rel => exact ⟨k + 1, U, hlt, by go_num, by omega, HS2⟩
        case measure => simp [intOf]; omega
      · have t6 : (s.dof == 6) = false := by simpa using h6
        by_cases hann : s.who = annB
        · have ta : (s.who.toList == [97, 110, 110]) = true := by rw [hann, ann_list]; rfl
          obtain ⟨V2, hV2⟩ : ∃ V2, V1.setCell ⟨a1, 3, none⟩ (.string ⟨#[98, 111, 98]⟩) = V2 := ⟨_, rfl⟩
          obtain ⟨s2, hd2, hsk2, hsl2, hwho, h6⟩ : ∃ s2 : SpM, V2.heap[a1]? = some (.cells s2.cells.toArray 44 (0, 0)) ∧ s2.Ok ∧ s2.Lt ∧ s2.who ≠ annB ∧ s2.dof ≠ 6 :=
            ⟨{ s with who := ⟨#[98, 111, 98]⟩ }, by rw [← hV2]; exact heap_set HD1.out 3 _, ⟨hsk.path, hsk.perm, hsk.mode, hsk.now, hsk.off, hsk.count, hsk.st⟩, ⟨hsl.name, (by show (⟨#[98, 111, 98]⟩ : ByteArray).size ≤ 4096; decide), hsl.n, hsl.u, hsl.g, hsl.m, hsl.data⟩, bob_ne, h6⟩
          have MV : Hid (Mod (fun _ => False) wr V2) := MV0.out.trans' (T := (· = a1)) (by rw [← hV2]; exact Mod.set1 _ _ _ _) fun j hj e => by have := HE1.out; omega
          have HD2 := Lib.hid hd2
          clear hann hd2
          go_upto_region 19 with (fail)
          clear hV2 c0 c3 f3 t6 ta
          have hok2 : (s2).Ok := hsk2
          have hlt2 : (s2).Lt := hsl2
          have hS2 := HS.out.do0 MV.out
          have hSt := sc_step hS2 s2 hok2 hlt2 (by omega) hlT4 (by omega)
          have hgs := guard_step hS2.wfT HG.out s2 hwho h6
          have hr2 : (V2).rangeAt a1 0 (s2).cells := fun j u hu => by rw [Nat.zero_add, cell_of HD2.out, List.getElem?_toArray]; exact hu
          have hsl3 := sp_len (s2)
          have hus := step_last U s2
          have HGS := Lib.hid hgs
          clear hS2 hgs hok2 hlt2
          go_wp2_with (refine wpList_load_mid rfl 44 (.tmp 10) rfl a1 0 rfl (s2).cells _ hr2 Tryz.underlying44 rfl (by kernel_rfl) ?_)
          refine hSt.mono ?_
          rintro e wn ⟨vv, rfl, hvv, hsc⟩
          have HS2 : Hid (Sc W w8 ρ F wn b b' (k + 4 + 1) T4 (stepT U s2).1) := by
            show Sc _ _ _ _ _ _ _ _ _ _
            have h9 := hsc
            rw [HGS.out] at h9
            exact h9
          generalize (stepT U s2).1 = U2 at *
          clear hSt hr2 hvv hsc HGS
          go_wp2
          go_roundw
          case rel => exact ⟨k + 1, U2, hlt, by go_num, by omega, by show Hid _; rw [show k + 1 + 4 = k + 4 + 1 by omega]; exact HS2⟩
          case measure => simp [intOf]; omega
        · have ta : (s.who.toList == [97, 110, 110]) = false := by rw [← ann_list, str_beq]; simpa using hann
          have hsk2 := hsk
          have hsl2 := hsl
          have hwho : s.who ≠ annB := hann
          have MV := MV0
          have HH6 := Lib.hid h6
          have HHw := Lib.hid hwho
          clear hann
          go_upto_region 19 with (fail)
          clear c0 c3 f3 t6 ta
          have hok2 : (s).Ok := hsk2
          have hlt2 : (s).Lt := hsl2
          have hS2 := HS.out.do0 MV.out
          have hSt := sc_step hS2 s hok2 hlt2 (by omega) hlT4 (by omega)
          have hgs := guard_step hS2.wfT HG.out s hwho h6
          have hr2 : (V1).rangeAt a1 0 (s).cells := fun j u hu => by rw [Nat.zero_add, cell_of HD1.out, List.getElem?_toArray]; exact hu
          have hsl3 := sp_len (s)
          have hus := step_last U s
          have HGS := Lib.hid hgs
          clear hS2 hgs hok2 hlt2
          go_wp2_with (refine wpList_load_mid rfl 44 (.tmp 10) rfl a1 0 rfl (s).cells _ hr2 Tryz.underlying44 rfl (by kernel_rfl) ?_)
          refine hSt.mono ?_
          rintro e wn ⟨vv, rfl, hvv, hsc⟩
          have HS2 : Hid (Sc W w8 ρ F wn b b' (k + 4 + 1) T4 (stepT U s).1) := by
            show Sc _ _ _ _ _ _ _ _ _ _
            have h9 := hsc
            rw [HGS.out] at h9
            exact h9
          generalize (stepT U s).1 = U2 at *
          clear hSt hr2 hvv hsc HGS
          go_wp2
          go_roundw
          case rel => exact ⟨k + 1, U2, hlt, by go_num, by omega, by show Hid _; rw [show k + 1 + 4 = k + 4 + 1 by omega]; exact HS2⟩
          case measure => simp [intOf]; omega
    · obtain rfl : k = l.length := by omega
      have t2 : decide ((l.length : Int) < (l.length : Int)) = false := by simp
      have t2' : decide (l.length < l.length) = false := by simp
      have hA := sc_all HS.out (by omega)
      have hV9 : FlAt wr (fun _ => True) v0 (allT T4) := by
        obtain ⟨ρ9, G9, _, _, y3⟩ := HS.out
        exact (HV8.out.mod y3.m fun j hj _ x => x.elim hj.1 hj.2).imp fun _ _ => trivial
      have HV9 := Lib.hid hV9
      clear hV9
      go_wp2_with fail
      refine hA.mono ?_
      rintro e w9 ⟨v1, rfl, hv1, m9⟩
      have M9 : Hid (Mod (fun _ => False) W w9) := HS.out.m.trans m9
      have hF := files_any v1 v0 (allT T4) w9 (hv1.imp fun _ _ => trivial) (HV9.out.mod m9 fun _ _ _ x => x) HLn.out
      clear hA m9 hv1 HV9 HS
      go_wp2_with fail
      refine hF.mono ?_
      rintro e wa ⟨rfl, ma⟩
      have Ma : Hid (Mod (fun _ => False) W wa) := M9.out.trans ma
      clear hF ma
      go_wp2_with fail
      refine (works_any wa (HT.out.mod (Ma).out)).mono ?_
      rintro e w9 ⟨rfl, m9⟩
      have M9 : Hid (Mod (fun _ => False) W w9) := (Ma).out.trans m9
      clear m9
      go_wp2
      go_ret
      exact ⟨rfl, M9.out⟩
end Go.Proofs.YtkcnbbjmkkaolaaGreatDoor
