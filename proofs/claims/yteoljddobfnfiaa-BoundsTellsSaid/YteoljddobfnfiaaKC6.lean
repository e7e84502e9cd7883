/- erratalaw20.BoundsTells returns true and leaves its arguments as they were, whatever they are. No condition. -/
import Derived.Test.YteoljddobfnfiaaKC5
import Derived.Deep.Slices
import Derived.ChangeArms
import Derived.WideShapes
import Derived.ProofKit
import Derived.OpenShut
import Derived.ShutString
import Derived.ChangeOld
import Derived.SizedLaws
import Derived.Test.YteoljddobfnfiaaRows
section
namespace Go.Proofs.Yteoljddobfnfiaa.PB
open Go.RowKit Go.Proofs.YteoljddobfnfiaaW.PrintWords Go.Proofs.YteoljddobfnfiaaW.PrintLast Go.Proofs.YteoljddobfnfiaaW.PrintMore
attribute [local go_sem] max2_int min2_int max_two min_two max_three min_three max_four min_four
attribute [local go_sem ↓ high] Go.Proofs.Yteoljddobfnfiaa.My.ld44_eq Go.Proofs.Yteoljddobfnfiaa.My.st44_eq Go.Proofs.Yteoljddobfnfiaa.My.ld27_eq Go.Proofs.Yteoljddobfnfiaa.My.st27_eq Go.Proofs.Yteoljddobfnfiaa.My.ld37_eq Go.Proofs.Yteoljddobfnfiaa.My.st37_eq Go.Proofs.Yteoljddobfnfiaa.My.ld65_eq Go.Proofs.Yteoljddobfnfiaa.My.st65_eq
attribute [local go_sem high] Go.Proofs.Yteoljddobfnfiaa.My.ld44_run Go.Proofs.Yteoljddobfnfiaa.My.st44_run Go.Proofs.Yteoljddobfnfiaa.My.ld27_run Go.Proofs.Yteoljddobfnfiaa.My.st27_run Go.Proofs.Yteoljddobfnfiaa.My.ld37_run Go.Proofs.Yteoljddobfnfiaa.My.st37_run Go.Proofs.Yteoljddobfnfiaa.My.ld65_run Go.Proofs.Yteoljddobfnfiaa.My.st65_run
open Go.Proofs.Yteoljddobfnfiaa.My
attribute [local go_sem] cell_map run_store_fnV one_int one_bool one_string one_slice one_fnV
set_option linter.unusedVariables false
set_option linter.unusedSimpArgs false

mutual
def errataref20_Witness.j0 : Nat → Int → Int → Bool → List (S95) → List (S44) → Option ((List (S55)))
  | 0, _, _, _, _, _ => none
  | k + 1, x1, x2, x34, x437000, x437001 => if x34 = true then (some ([] : List (S55))) else (if 0 ≤ x1 then (if x1 < (x437001.length : Int) then ((errataref20_Bounded.f ((rd_T44 x437001 x1).f0) ((rd_T44 x437001 x1).f1) ((rd_T44 x437001 x1).f2) ((rd_T44 x437001 x1).f3) ((rd_T44 x437001 x1).f4) ((rd_T44 x437001 x1).f5) ((rd_T44 x437001 x1).f6) ((rd_T44 x437001 x1).f7) ((rd_T44 x437001 x1).f8) ((rd_T44 x437001 x1).f9) ((rd_T44 x437001 x1).f10) ((rd_T44 x437001 x1).f11) ((rd_T44 x437001 x1).f12) ((rd_T44 x437001 x1).f13) ((rd_T44 x437001 x1).f14) ((rd_T44 x437001 x1).f15)).bind fun t440 => (if t440 = true then (errataref20_Witness.j1 k x2 true x437000 x437001 ((rd_T44 x437001 x1).f0) ((rd_T44 x437001 x1).f1) ((rd_T44 x437001 x1).f2) ((rd_T44 x437001 x1).f3) ((rd_T44 x437001 x1).f4) ((rd_T44 x437001 x1).f5) ((rd_T44 x437001 x1).f6) ((rd_T44 x437001 x1).f7) ((rd_T44 x437001 x1).f8) ((rd_T44 x437001 x1).f9) ((rd_T44 x437001 x1).f10) ((rd_T44 x437001 x1).f11) ((rd_T44 x437001 x1).f12) ((rd_T44 x437001 x1).f13) ((rd_T44 x437001 x1).f14) ((rd_T44 x437001 x1).f15)) else (errataref20_Witness.j1 k x2 ((((rd_T44 x437001 x1).f1).length : Int) == 0) x437000 x437001 ((rd_T44 x437001 x1).f0) ((rd_T44 x437001 x1).f1) ((rd_T44 x437001 x1).f2) ((rd_T44 x437001 x1).f3) ((rd_T44 x437001 x1).f4) ((rd_T44 x437001 x1).f5) ((rd_T44 x437001 x1).f6) ((rd_T44 x437001 x1).f7) ((rd_T44 x437001 x1).f8) ((rd_T44 x437001 x1).f9) ((rd_T44 x437001 x1).f10) ((rd_T44 x437001 x1).f11) ((rd_T44 x437001 x1).f12) ((rd_T44 x437001 x1).f13) ((rd_T44 x437001 x1).f14) ((rd_T44 x437001 x1).f15)))) else (none)) else (none))
def errataref20_Witness.j1 : Nat → Int → Bool → List (S95) → List (S44) → Int → List Int → ByteArray → Int → List (S93) → Int → Int → Int → List Int → List Int → Int → Int → Int → List (S97) → List (S99) → List (S50) → Option ((List (S55)))
  | 0, _, _, _, _, _, _, _, _, _, _, _, _, _, _, _, _, _, _, _, _ => none
  | k + 1, x2, x47, x437000, x437001, x440000, x440001, x440002, x440003, x440004, x440005, x440006, x440007, x440008, x440009, x440010, x440011, x440012, x440013, x440014, x440015 => if x47 = true then (some ([] : List (S55))) else (if 0 < (x440001.length : Int) then (if 0 ≤ (rd x440001 0) then (if (rd x440001 0) < (x437001.length : Int) then (errataref20_Witness.l0 k x2 ((rd_T44 x437001 (rd x440001 0)).f15) ([] : List (S55)) 0) else (none)) else (none)) else (none))
def errataref20_Witness.l0 : Nat → Int → List (S50) → List (S55) → Int → Option ((List (S55)))
  | 0, _, _, _, _ => none
  | k + 1, x2, x8, x9, x10 => if x10 < x2 then (errataref20_Witness.l1 k x2 x8 x9 x10 0 (wrap64 (30001 * x10)) ([] : List (S70)) 1) else (some x9)
def errataref20_Witness.l1 : Nat → Int → List (S50) → List (S55) → Int → Int → Int → List (S70) → Int → Option ((List (S55)))
  | 0, _, _, _, _, _, _, _, _ => none
  | k + 1, x2, x8, x9, x10, x12, x444000, x444001, x444002 => if x12 < (x8.length : Int) then (if 0 ≤ x12 then ((errataref20_within.f ((rd_T50 x8 x12).f1) 0 2).bind fun t445 => (if t445 = true then (if x444001.length < 4398046511104 then (errataref20_Witness.l1 k x2 x8 x9 x10 (wrap64 (x12 + 1)) x444000 (x444001 ++ [(⟨(rd_T50 x8 x12).f1, 0, (⟨#[]⟩ : ByteArray)⟩ : S70)]) x444002) else (none)) else (some ([] : List (S55))))) else (none)) else (if x9.length < 3518437208883 then (errataref20_Witness.l0 k x2 x8 (x9 ++ [(⟨x444000, x444001, x444002⟩ : S55)]) (wrap64 (x10 + 1))) else (none))
end
def errataref20_Witness.f (k : Nat) (l0_0 : List (S95)) (l0_1 : List (S44)) (a1 : Int) (a2 : Int) : Option ((List (S55))) := (errataref20_Well.f k l0_0 l0_1).bind fun t437 => (if t437 = true then (if a1 < 0 then (errataref20_Witness.j0 k a1 a2 true l0_0 l0_1) else (if a1 ≥ (l0_1.length : Int) then (errataref20_Witness.j0 k a1 a2 true l0_0 l0_1) else (if a2 < 1 then (errataref20_Witness.j0 k a1 a2 true l0_0 l0_1) else (errataref20_Witness.j0 k a1 a2 (decide (a2 > 1000)) l0_0 l0_1)))) else (errataref20_Witness.j0 k a1 a2 true l0_0 l0_1))
def errataref20_Witness.T6 : Bool × List (List Nat × List Nat) := (true, [([], []), ([0], [0]), ([], []), ([2], [2]), ([3], [3]), ([4], [4]), ([1, 5], [1, 5]), ([6], [6]), ([7], [7]), ([8, 0, 1, 2, 3, 4, 5, 6, 7, 8], [8])])
def errataref20_Witness.B6 : List Nat := [0, 1, 0, 4, 12, 28, 63, 127, 255, 511]
theorem errataref20_Witness.tab6 : rtab .any (opsOf Try.f25 6) = errataref20_Witness.T6 := by kernel_rfl
theorem errataref20_Witness.bits6 : waitsOk errataref20_Witness.T6.2 errataref20_Witness.B6 = true := by kernel_rfl
def errataref20_Witness.T17 : Bool × List (List Nat × List Nat) := (true, [([], []), ([0], [0]), ([], []), ([], []), ([2, 3], [2, 3]), ([4], [4]), ([5], [5]), ([6], [6]), ([7], [7]), ([1, 8], [1, 8]), ([0, 1, 2, 3, 4, 5, 6, 7, 8, 9], []), ([10, 9, 9, 0, 1, 2, 3, 4, 5, 6, 7, 8, 9], [9, 10])])
def errataref20_Witness.B17 : List Nat := [0, 1, 0, 0, 12, 28, 60, 124, 252, 511, 1023, 2047]
theorem errataref20_Witness.tab17 : rtab .any (opsOf Try.f25 17) = errataref20_Witness.T17 := by kernel_rfl
theorem errataref20_Witness.bits17 : waitsOk errataref20_Witness.T17.2 errataref20_Witness.B17 = true := by kernel_rfl
set_option maxHeartbeats 8000000 in
set_option maxRecDepth 100000 in
theorem errataref20_Witness.calls (k : Nat) (A0_0 : Option Addr) (c0_0 : Nat) (l0_0 : List (S95)) (A0_1 : Option Addr) (c0_1 : Nat) (l0_1 : List (S44)) (a1 : Int) (a2 : Int) (r : List (S55)) (w : World) (hr0_0 : Kd.C k95 w A0_0 l0_0.length l0_0) (hc0_0 : l0_0.length ≤ c0_0) (hr0_1 : Kd.C k44 w A0_1 l0_1.length l0_1) (hc0_1 : l0_1.length ≤ c0_1) (h : errataref20_Witness.f k l0_0 l0_1 a1 a2 = some r) :
    Calls Try.prog 25 #[.agg #[.slice A0_0 l0_0.length c0_0, .slice A0_1 l0_1.length c0_1], .int .i64 a1, .int .i64 a2] w fun e w' => ∃ v0_ : Value, e = .returned (v0_) ∧ Kd.S k55 55 w' w.heap.size (fun _ => True) v0_ r ∧ Below w.heap.size w w' := by
 have hu25 := Try.underlying25
 have hu44 := Try.underlying44
 have hu55 := Try.underlying55
 have hu70 := Try.underlying70
 have HR0_0 := Aside0.mk hr0_0
 have HC0_0 := Aside0.mk hc0_0
 clear hr0_0 hc0_0
 have HR0_1 := Aside0.mk hr0_1
 have HC0_1 := Aside0.mk hc0_1
 clear hr0_1 hc0_1
 have HB := Aside0.mk (Below.refl w.heap.size w)
 have H : ((errataref20_Well.f k l0_0 l0_1).bind fun t437 => (if t437 = true then (if a1 < 0 then (errataref20_Witness.j0 k a1 a2 true l0_0 l0_1) else (if a1 ≥ (l0_1.length : Int) then (errataref20_Witness.j0 k a1 a2 true l0_0 l0_1) else (if a2 < 1 then (errataref20_Witness.j0 k a1 a2 true l0_0 l0_1) else (errataref20_Witness.j0 k a1 a2 (decide (a2 > 1000)) l0_0 l0_1)))) else (errataref20_Witness.j0 k a1 a2 true l0_0 l0_1))) = some r := h
 clear h
 have HC4 := Aside0.mk H
 clear H
 go_enter Try.func25, Try.ntmps25
 go_upto_region 1 with (first | ((with_reducible refine gate_dst (N := 3) rfl ?_); (try (refine gate_guard (by rfl) ?_; dsimp only)); refine box_event ?hg (N := 3) ?hd (cs := #[.slice A0_0 l0_0.length c0_0, .slice A0_1 l0_1.length c0_1]) (t := 25) ?hr ?_; (case hd => rfl); (case hg => rfl); (case hr => first | (go_simp; done) | (go_simp; rfl)); intro gb436 hg w5 hbox hb; have BK436 := Aside0.mk (hbox); have GW436 := Aside0.mk ((by rw [hg]; exact below_sizeA : w.heap.size ≤ gb436)); have GE436 := GW436; replace HB := Aside0.mk (below_stepA hb); clear hb hbox hg))
 (try simp only [Act.put, List.setIfInBounds_toArray, List.set_cons_zero, List.set_cons_succ])
 go_cut [34] (fun v34 wc => ∃ (kq : Nat) (x34_3 : Bool), v34 = .bool x34_3 ∧ Aside0 (errataref20_Witness.j0 kq a1 a2 x34_3 l0_0 l0_1 = some r) ∧ Aside0 (kq ≤ k) ∧ Aside0 (wc.heap[gb436]? = some (.cells #[(.slice A0_0 l0_0.length c0_0), (.slice A0_1 l0_1.length c0_1)] 25 (0, 0))) ∧ Aside0 (Below w.heap.size w wc))
 case first =>
  have H := HC4.out
  clear HC4
  replace H := Option.bind_eq_some_iff.mp H
  obtain ⟨t437, A60, H⟩ := H
  try dsimp only at H
  have A6 := Aside0.mk A60
  clear A60
  by_cases c7 : t437 = true
  ·
   subst c7
   rw [if_pos rfl] at H
   by_cases c8 : a1 < 0
   ·
    rw [if_pos c8] at H
    have c8b0 : decide (a1 < 0) = true := decide_eq_true c8
    clear c8
    (first | rw [c8b0] | (simp only [i64_w, i32_w]; rw [c8b0]) | skip)
    have H' := Aside0.mk H
    clear H
    have hz9 := blk2 BK436.out
    go_wp2_with (first | ((with_reducible refine gate_callee (f := 22) rfl ?_); refine goesL_ (some 14) rfl rfl Try.func22 (by kernel_rfl) rfl #[.agg #[.slice A0_0 l0_0.length c0_0, .slice A0_1 l0_1.length c0_1]] rfl mapA ?_; (with_reducible refine (errataref20_Well.calls k _ _ l0_0 _ _ l0_1 true _ (c_belowA HR0_0.out) HC0_0.out (c_belowA HR0_1.out) HC0_1.out A6.out).mono ?_); rintro e w10 ⟨rfl, hb⟩; refine ⟨_, rfl, ?_⟩; replace BK436 := Aside0.mk (blk_keepA BK436.out hb); replace HB := Aside0.mk (below_stepA hb); (try clear hb)))
    go_meet
    case rel => exact ⟨_, (true), (by first | rfl | (simp; done) | (simp [*]; done)), H', ⟨by first | omega | exact Nat.le_refl _⟩, ⟨blk_move BK436.out⟩, ⟨by repeat (first | (with_reducible first | exact HB.out | apply below_alloc | apply pw_below_drewN | apply below_drew1 | refine below_set ?_ GE436.out) | exact HB.out)⟩⟩
   ·
    rw [if_neg c8] at H
    have c8b0 : decide (a1 < 0) = false := decide_eq_false c8
    clear c8
    (first | rw [c8b0] | (simp only [i64_w, i32_w]; rw [c8b0]) | skip)
    by_cases c11 : a1 ≥ (l0_1.length : Int)
    ·
     rw [if_pos c11] at H
     have c11b0 : decide ((l0_1.length : Int) ≤ a1) = true := decide_eq_true c11
     clear c11
     have H' := Aside0.mk H
     clear H
     have hz12 := blk2 BK436.out
     go_wp2_with (first | ((with_reducible refine gate_callee (f := 22) rfl ?_); refine goesL_ (some 14) rfl rfl Try.func22 (by kernel_rfl) rfl #[.agg #[.slice A0_0 l0_0.length c0_0, .slice A0_1 l0_1.length c0_1]] rfl mapA ?_; (with_reducible refine (errataref20_Well.calls k _ _ l0_0 _ _ l0_1 true _ (c_belowA HR0_0.out) HC0_0.out (c_belowA HR0_1.out) HC0_1.out A6.out).mono ?_); rintro e w13 ⟨rfl, hb⟩; refine ⟨_, rfl, ?_⟩; replace BK436 := Aside0.mk (blk_keepA BK436.out hb); replace HB := Aside0.mk (below_stepA hb); (try clear hb); have hz14 := blk2 BK436.out))
     go_meet
     case rel => exact ⟨_, (true), (by first | rfl | (simp; done) | (simp [*]; done)), H', ⟨by first | omega | exact Nat.le_refl _⟩, ⟨blk_move BK436.out⟩, ⟨by repeat (first | (with_reducible first | exact HB.out | apply below_alloc | apply pw_below_drewN | apply below_drew1 | refine below_set ?_ GE436.out) | exact HB.out)⟩⟩
    ·
     rw [if_neg c11] at H
     have c11b0 : decide ((l0_1.length : Int) ≤ a1) = false := decide_eq_false c11
     clear c11
     by_cases c15 : a2 < 1
     ·
      rw [if_pos c15] at H
      have c15b0 : decide (a2 < 1) = true := decide_eq_true c15
      clear c15
      have H' := Aside0.mk H
      clear H
      have hz16 := blk2 BK436.out
      go_wp2_with (first | ((with_reducible refine gate_callee (f := 22) rfl ?_); refine goesL_ (some 14) rfl rfl Try.func22 (by kernel_rfl) rfl #[.agg #[.slice A0_0 l0_0.length c0_0, .slice A0_1 l0_1.length c0_1]] rfl mapA ?_; (with_reducible refine (errataref20_Well.calls k _ _ l0_0 _ _ l0_1 true _ (c_belowA HR0_0.out) HC0_0.out (c_belowA HR0_1.out) HC0_1.out A6.out).mono ?_); rintro e w17 ⟨rfl, hb⟩; refine ⟨_, rfl, ?_⟩; replace BK436 := Aside0.mk (blk_keepA BK436.out hb); replace HB := Aside0.mk (below_stepA hb); (try clear hb); have hz18 := blk2 BK436.out))
      go_meet
      case rel => exact ⟨_, (true), (by first | rfl | (simp; done) | (simp [*]; done)), H', ⟨by first | omega | exact Nat.le_refl _⟩, ⟨blk_move BK436.out⟩, ⟨by repeat (first | (with_reducible first | exact HB.out | apply below_alloc | apply pw_below_drewN | apply below_drew1 | refine below_set ?_ GE436.out) | exact HB.out)⟩⟩
     ·
      rw [if_neg c15] at H
      have c15b0 : decide (a2 < 1) = false := decide_eq_false c15
      clear c15
      have H' := Aside0.mk H
      clear H
      have hz19 := blk2 BK436.out
      go_wp2_with (first | ((with_reducible refine gate_callee (f := 22) rfl ?_); refine goesL_ (some 14) rfl rfl Try.func22 (by kernel_rfl) rfl #[.agg #[.slice A0_0 l0_0.length c0_0, .slice A0_1 l0_1.length c0_1]] rfl mapA ?_; (with_reducible refine (errataref20_Well.calls k _ _ l0_0 _ _ l0_1 true _ (c_belowA HR0_0.out) HC0_0.out (c_belowA HR0_1.out) HC0_1.out A6.out).mono ?_); rintro e w20 ⟨rfl, hb⟩; refine ⟨_, rfl, ?_⟩; replace BK436 := Aside0.mk (blk_keepA BK436.out hb); replace HB := Aside0.mk (below_stepA hb); (try clear hb); have hz21 := blk2 BK436.out))
      go_meet
      case rel => exact ⟨_, (decide (a2 > 1000)), (by first | rfl | (simp; done) | (simp [*]; done)), H', ⟨by first | omega | exact Nat.le_refl _⟩, ⟨blk_move BK436.out⟩, ⟨by repeat (first | (with_reducible first | exact HB.out | apply below_alloc | apply pw_below_drewN | apply below_drew1 | refine below_set ?_ GE436.out) | exact HB.out)⟩⟩
  ·
   replace c7 := Bool.eq_false_iff.mpr c7
   subst c7
   rw [if_neg (show ¬ (false = true) by decide)] at H
   have H' := Aside0.mk H
   clear H
   have hz22 := blk2 BK436.out
   go_wp2_with (first | ((with_reducible refine gate_callee (f := 22) rfl ?_); refine goesL_ (some 14) rfl rfl Try.func22 (by kernel_rfl) rfl #[.agg #[.slice A0_0 l0_0.length c0_0, .slice A0_1 l0_1.length c0_1]] rfl mapA ?_; (with_reducible refine (errataref20_Well.calls k _ _ l0_0 _ _ l0_1 false _ (c_belowA HR0_0.out) HC0_0.out (c_belowA HR0_1.out) HC0_1.out A6.out).mono ?_); rintro e w23 ⟨rfl, hb⟩; refine ⟨_, rfl, ?_⟩; replace BK436 := Aside0.mk (blk_keepA BK436.out hb); replace HB := Aside0.mk (below_stepA hb); (try clear hb)))
   go_meet
   case rel => exact ⟨_, (true), (by first | rfl | (simp; done) | (simp [*]; done)), H', ⟨by first | omega | exact Nat.le_refl _⟩, ⟨blk_move BK436.out⟩, ⟨by repeat (first | (with_reducible first | exact HB.out | apply below_alloc | apply pw_below_drewN | apply below_drew1 | refine below_set ?_ GE436.out) | exact HB.out)⟩⟩
 case rest =>
  clear HC4
  try clear c1
  try clear c2
  try clear p2
  try clear c7
  try clear c8
  try clear c8b0
  try clear c11
  try clear c11b0
  try clear c15
  try clear c15b0
  try clear c22
  try clear hz12
  try clear hz14
  try clear hz16
  try clear hz18
  try clear hz19
  try clear hz21
  try clear hz22
  try clear hz9
  obtain ⟨kq, x34_3, rfl, HA, HJ3, BK436, HB⟩ := hcut
  cases kq with
  | zero => exact absurd HA.out (by simp [errataref20_Witness.j0])
  | succ kj3 =>
   have H := HA.out
   clear HA
   simp only [errataref20_Witness.j0] at H
   by_cases c24 : x34_3 = true
   ·
    subst c24
    rw [if_pos rfl] at H
    obtain rfl := Option.some.inj H
    go_wp2
    go_ret
    exact ⟨_, by first | rfl | (simp [errW_none, errW_some] <;> rfl) | (simp [*, errW_none, errW_some] <;> rfl), by first | exact Kd.S_nil _ _ _ _ _ | exact Kd.N_nil _ _ _ _ _ | exact Kd.V_nil _ _ _ _ _ | exact Kd.Q_nil _ _ _ _ _ | exact Kd.R_nil _ _ _ _ _, belowA⟩
   ·
    replace c24 := Bool.eq_false_iff.mpr c24
    subst c24
    rw [if_neg (show ¬ (false = true) by decide)] at H
    by_cases c25 : 0 ≤ a1
    case neg => rw [if_neg c25] at H; exact absurd H (by simp)
    rw [if_pos c25] at H
    have c25b0 : decide (0 ≤ a1) = true := decide_eq_true c25
    clear c25
    by_cases c26 : a1 < (l0_1.length : Int)
    case neg => rw [if_neg c26] at H; exact absurd H (by simp)
    rw [if_pos c26] at H
    have c26b0 : decide (a1 < (l0_1.length : Int)) = true := decide_eq_true c26
    clear c26
    have HC27 := Aside0.mk H
    clear H
    have hz28 := blk2 BK436.out
    have p438 : 0 ≤ (a1 : Int) := odA
    have q438 : a1 < (l0_1.length : Int) := odA
    obtain ⟨ad438, A438_1, c438_1, A438_4, c438_4, A438_8, c438_8, A438_9, c438_9, A438_13, c438_13, A438_14, c438_14, A438_15, c438_15, e438, hx438_0, hx438_1, hx438_2, hx438_3, hx438_4, hx438_5, hx438_6, hx438_7, hx438_8, hx438_9, hx438_10, hx438_11, hx438_12, hx438_13, hx438_14, hx438_15, hl438_1, hi438_1, hl438_4, hi438_4, hl438_8, hi438_8, hl438_9, hi438_9, hl438_13, hi438_13, hl438_14, hi438_14, hl438_15, hi438_15⟩ := at_T44 HR0_1.out a1 p438 q438
    cases e438
    replace hx438_0 := pw_cell_below HB.out hx438_0
    replace hx438_1 := pw_cell_below HB.out hx438_1
    replace hx438_2 := pw_cell_below HB.out hx438_2
    replace hx438_3 := pw_cell_below HB.out hx438_3
    replace hx438_4 := pw_cell_below HB.out hx438_4
    replace hx438_5 := pw_cell_below HB.out hx438_5
    replace hx438_6 := pw_cell_below HB.out hx438_6
    replace hx438_7 := pw_cell_below HB.out hx438_7
    replace hx438_8 := pw_cell_below HB.out hx438_8
    replace hx438_9 := pw_cell_below HB.out hx438_9
    replace hx438_10 := pw_cell_below HB.out hx438_10
    replace hx438_11 := pw_cell_below HB.out hx438_11
    replace hx438_12 := pw_cell_below HB.out hx438_12
    replace hx438_13 := pw_cell_below HB.out hx438_13
    replace hx438_14 := pw_cell_below HB.out hx438_14
    replace hx438_15 := pw_cell_below HB.out hx438_15
    have HR438_1 := Aside0.mk hi438_1
    have HC438_1 := Aside0.mk hl438_1
    clear hi438_1 hl438_1
    have HR438_4 := Aside0.mk hi438_4
    have HC438_4 := Aside0.mk hl438_4
    clear hi438_4 hl438_4
    have HR438_8 := Aside0.mk hi438_8
    have HC438_8 := Aside0.mk hl438_8
    clear hi438_8 hl438_8
    have HR438_9 := Aside0.mk hi438_9
    have HC438_9 := Aside0.mk hl438_9
    clear hi438_9 hl438_9
    have HR438_13 := Aside0.mk hi438_13
    have HC438_13 := Aside0.mk hl438_13
    clear hi438_13 hl438_13
    have HR438_14 := Aside0.mk hi438_14
    have HC438_14 := Aside0.mk hl438_14
    clear hi438_14 hl438_14
    have HR438_15 := Aside0.mk hi438_15
    have HC438_15 := Aside0.mk hl438_15
    clear hi438_15 hl438_15
    replace p438 := eq_true p438
    replace q438 := eq_true q438
    go_upto_region 4 with (first | ((with_reducible refine gate_dst (N := 7) rfl ?_); (try (refine gate_guard (by rfl) ?_; dsimp only)); refine box_event ?hg (N := 7) ?hd (cs := #[.int .i64 0, .slice none 0 0, .string (⟨#[]⟩ : ByteArray), .int .i64 0, .slice none 0 0, .int .i64 0, .int .i64 0, .int .i64 0, .slice none 0 0, .slice none 0 0, .int .i64 0, .int .i64 0, .int .i64 0, .slice none 0 0, .slice none 0 0, .slice none 0 0]) (t := 44) ?hr ?_; (case hd => rfl); (case hg => rfl); (case hr => first | (go_simp; done) | (go_simp; rfl)); intro gb439 hg w29 hbox hb; have BK439 := Aside0.mk (hbox); have GW439 := Aside0.mk ((by rw [hg]; exact below_sizeA : w.heap.size ≤ gb439)); have GE439 := GW439; have NB436_439 := Aside0.mk ((by rw [hg]; exact Nat.ne_of_lt (blk_ltKA BK436.out) : gb436 ≠ gb439)); have NB439_436 := Aside0.mk NB436_439.out.symm; replace BK436 := Aside0.mk (blk_keepA BK436.out hb); replace HB := Aside0.mk (below_stepA hb); clear hb hbox hg; have hnb30 := NB439_436.out; have hnc30 := NB436_439.out; have hz31 := blk16 BK439.out))
    (try simp only [Act.put, List.setIfInBounds_toArray, List.set_cons_zero, List.set_cons_succ])
    go_cut [47] (fun v47 wc => ∃ (kq : Nat) (x47_26 : Bool), v47 = .bool x47_26 ∧ Aside0 (errataref20_Witness.j1 kq a2 x47_26 l0_0 l0_1 ((rd_T44 l0_1 a1).f0) ((rd_T44 l0_1 a1).f1) ((rd_T44 l0_1 a1).f2) ((rd_T44 l0_1 a1).f3) ((rd_T44 l0_1 a1).f4) ((rd_T44 l0_1 a1).f5) ((rd_T44 l0_1 a1).f6) ((rd_T44 l0_1 a1).f7) ((rd_T44 l0_1 a1).f8) ((rd_T44 l0_1 a1).f9) ((rd_T44 l0_1 a1).f10) ((rd_T44 l0_1 a1).f11) ((rd_T44 l0_1 a1).f12) ((rd_T44 l0_1 a1).f13) ((rd_T44 l0_1 a1).f14) ((rd_T44 l0_1 a1).f15) = some r) ∧ Aside0 (kq ≤ kj3) ∧ Aside0 (wc.heap[gb436]? = some (.cells #[(.slice A0_0 l0_0.length c0_0), (.slice (some ad438) l0_1.length c0_1)] 25 (0, 0))) ∧ Aside0 (wc.heap[gb439]? = some (.cells #[.int .i64 ((rd_T44 l0_1 a1).f0), (.slice A438_1 ((rd_T44 l0_1 a1).f1).length c438_1), .string ((rd_T44 l0_1 a1).f2), .int .i64 ((rd_T44 l0_1 a1).f3), (.slice A438_4 ((rd_T44 l0_1 a1).f4).length c438_4), .int .i64 ((rd_T44 l0_1 a1).f5), .int .i64 ((rd_T44 l0_1 a1).f6), .int .i64 ((rd_T44 l0_1 a1).f7), (.slice A438_8 ((rd_T44 l0_1 a1).f8).length c438_8), (.slice A438_9 ((rd_T44 l0_1 a1).f9).length c438_9), .int .i64 ((rd_T44 l0_1 a1).f10), .int .i64 ((rd_T44 l0_1 a1).f11), .int .i64 ((rd_T44 l0_1 a1).f12), (.slice A438_13 ((rd_T44 l0_1 a1).f13).length c438_13), (.slice A438_14 ((rd_T44 l0_1 a1).f14).length c438_14), (.slice A438_15 ((rd_T44 l0_1 a1).f15).length c438_15)] 44 (0, 0))) ∧ Aside0 (Below w.heap.size w wc))
    case first =>
     have H := HC27.out
     clear HC27
     replace H := Option.bind_eq_some_iff.mp H
     obtain ⟨t440, A320, H⟩ := H
     try dsimp only at H
     have A32 := Aside0.mk A320
     clear A320
     by_cases c33 : t440 = true
     ·
      subst c33
      rw [if_pos rfl] at H
      have H' := Aside0.mk H
      clear H
      have hnb34 := NB439_436.out
      have hnc34 := NB436_439.out
      have hz35 := blk16 BK439.out
      go_wp2_with (first | ((with_reducible refine gate_callee (f := 23) rfl ?_); refine goesL_ (some 41) rfl rfl Try.func23 (by kernel_rfl) rfl #[.agg (A44 (rd_T44 l0_1 a1) A438_1 c438_1 A438_4 c438_4 A438_8 c438_8 A438_9 c438_9 A438_13 c438_13 A438_14 c438_14 A438_15 c438_15)] rfl mapA ?_; (with_reducible refine (errataref20_Bounded.calls _ _ _ _ _ _ _ _ _ _ _ _ _ _ _ _ _ _ _ _ _ _ _ _ _ _ _ _ _ _ true _ (c_belowB HR438_1.out) HC438_1.out (c_belowB HR438_4.out) HC438_4.out (c_belowB HR438_8.out) HC438_8.out (c_belowB HR438_9.out) HC438_9.out (c_belowB HR438_13.out) HC438_13.out (c_belowB HR438_14.out) HC438_14.out (c_belowB HR438_15.out) HC438_15.out A32.out).mono ?_); rintro e w36 ⟨rfl, hb⟩; refine ⟨_, rfl, ?_⟩; replace BK436 := Aside0.mk (blk_keepA BK436.out hb); replace BK439 := Aside0.mk (blk_below (g := gb439) (o := .cells (A44 (rd_T44 l0_1 a1) A438_1 c438_1 A438_4 c438_4 A438_8 c438_8 A438_9 c438_9 A438_13 c438_13 A438_14 c438_14 A438_15 c438_15) 44 (0, 0)) (blk_move BK439.out) hb); replace HB := Aside0.mk (below_stepA hb); (try clear hb)))
      go_meet
      case rel => exact ⟨_, (true), (by first | rfl | (simp; done) | (simp [*]; done)), H', ⟨by have := HJ3.out; first | omega | exact Nat.le_refl _⟩, ⟨blk_move BK436.out⟩, ⟨blk_move BK439.out⟩, ⟨by repeat (first | (with_reducible first | exact HB.out | apply below_alloc | apply pw_below_drewN | apply below_drew1 | refine below_set ?_ GE436.out | refine below_set ?_ GE439.out) | exact HB.out)⟩⟩
     ·
      replace c33 := Bool.eq_false_iff.mpr c33
      subst c33
      rw [if_neg (show ¬ (false = true) by decide)] at H
      have H' := Aside0.mk H
      clear H
      have hnb37 := NB439_436.out
      have hnc37 := NB436_439.out
      have hz38 := blk16 BK439.out
      go_wp2_with (first | ((with_reducible refine gate_callee (f := 23) rfl ?_); refine goesL_ (some 41) rfl rfl Try.func23 (by kernel_rfl) rfl #[.agg (A44 (rd_T44 l0_1 a1) A438_1 c438_1 A438_4 c438_4 A438_8 c438_8 A438_9 c438_9 A438_13 c438_13 A438_14 c438_14 A438_15 c438_15)] rfl mapA ?_; (with_reducible refine (errataref20_Bounded.calls _ _ _ _ _ _ _ _ _ _ _ _ _ _ _ _ _ _ _ _ _ _ _ _ _ _ _ _ _ _ false _ (c_belowB HR438_1.out) HC438_1.out (c_belowB HR438_4.out) HC438_4.out (c_belowB HR438_8.out) HC438_8.out (c_belowB HR438_9.out) HC438_9.out (c_belowB HR438_13.out) HC438_13.out (c_belowB HR438_14.out) HC438_14.out (c_belowB HR438_15.out) HC438_15.out A32.out).mono ?_); rintro e w39 ⟨rfl, hb⟩; refine ⟨_, rfl, ?_⟩; replace BK436 := Aside0.mk (blk_keepA BK436.out hb); replace BK439 := Aside0.mk (blk_below (g := gb439) (o := .cells (A44 (rd_T44 l0_1 a1) A438_1 c438_1 A438_4 c438_4 A438_8 c438_8 A438_9 c438_9 A438_13 c438_13 A438_14 c438_14 A438_15 c438_15) 44 (0, 0)) (blk_move BK439.out) hb); replace HB := Aside0.mk (below_stepA hb); (try clear hb); have hz40 := blk16 BK439.out))
      go_meet
      case rel => exact ⟨_, (((((rd_T44 l0_1 a1).f1).length : Int) == 0)), (by first | rfl | (simp; done) | (simp [*]; done)), H', ⟨by have := HJ3.out; first | omega | exact Nat.le_refl _⟩, ⟨blk_move BK436.out⟩, ⟨blk_move BK439.out⟩, ⟨by repeat (first | (with_reducible first | exact HB.out | apply below_alloc | apply pw_below_drewN | apply below_drew1 | refine below_set ?_ GE436.out | refine below_set ?_ GE439.out) | exact HB.out)⟩⟩
    case rest =>
     clear HC27
     try clear c1
     try clear c2
     try clear p2
     try clear c3
     try clear c4
     try clear p4
     try clear q4
     try clear hx4
     try clear c7
     try clear c8
     try clear c8b0
     try clear c11
     try clear c11b0
     try clear c15
     try clear c15b0
     try clear c22
     try clear c23
     try clear c24
     try clear c25
     try clear c25b0
     try clear c26
     try clear c26b0
     try clear c30
     try clear c33
     try clear c34
     try clear c37
     try clear hz12
     try clear hz14
     try clear hz16
     try clear hz18
     try clear hz19
     try clear hz21
     try clear hz22
     try clear hz28
     try clear hz31
     try clear hz35
     try clear hz38
     try clear hz40
     try clear hz9
     try clear hx438_0
     try clear hx438_1
     try clear hx438_10
     try clear hx438_11
     try clear hx438_12
     try clear hx438_13
     try clear hx438_14
     try clear hx438_15
     try clear hx438_2
     try clear hx438_3
     try clear hx438_4
     try clear hx438_5
     try clear hx438_6
     try clear hx438_7
     try clear hx438_8
     try clear hx438_9
     try clear p2
     try clear p438
     try clear q438
     obtain ⟨kq, x47_26, rfl, HA, HJ26, BK436, BK439, HB⟩ := hcut
     cases kq with
     | zero => exact absurd HA.out (by simp [errataref20_Witness.j1])
     | succ kj26 =>
      have H := HA.out
      clear HA
      simp only [errataref20_Witness.j1] at H
      by_cases c41 : x47_26 = true
      ·
       subst c41
       rw [if_pos rfl] at H
       obtain rfl := Option.some.inj H
       go_wp2
       go_ret
       exact ⟨_, by first | rfl | (simp [errW_none, errW_some] <;> rfl) | (simp [*, errW_none, errW_some] <;> rfl), by first | exact Kd.S_nil _ _ _ _ _ | exact Kd.N_nil _ _ _ _ _ | exact Kd.V_nil _ _ _ _ _ | exact Kd.Q_nil _ _ _ _ _ | exact Kd.R_nil _ _ _ _ _, belowA⟩
      ·
       replace c41 := Bool.eq_false_iff.mpr c41
       subst c41
       rw [if_neg (show ¬ (false = true) by decide)] at H
       by_cases c42 : 0 < (((rd_T44 l0_1 a1).f1).length : Int)
       case neg => rw [if_neg c42] at H; exact absurd H (by simp)
       rw [if_pos c42] at H
       have c42b0 : decide (0 < (((rd_T44 l0_1 a1).f1).length : Int)) = true := decide_eq_true c42
       have c42b1 : decide (0 < ((rd_T44 l0_1 a1).f1).length) = true := decide_eq_true (by omega)
       clear c42
       by_cases c43 : 0 ≤ (rd ((rd_T44 l0_1 a1).f1) 0)
       case neg => rw [if_neg c43] at H; exact absurd H (by simp)
       rw [if_pos c43] at H
       have c43b0 : decide (0 ≤ (rd ((rd_T44 l0_1 a1).f1) 0)) = true := decide_eq_true c43
       clear c43
       by_cases c44 : (rd ((rd_T44 l0_1 a1).f1) 0) < (l0_1.length : Int)
       case neg => rw [if_neg c44] at H; exact absurd H (by simp)
       rw [if_pos c44] at H
       have c44b0 : decide ((rd ((rd_T44 l0_1 a1).f1) 0) < (l0_1.length : Int)) = true := decide_eq_true c44
       clear c44
       have H' := Aside0.mk H
       clear H
       try go_wp2
       have n0_ := Aside0.mk (blk_drew BK436.out)
       have n1_ := Aside0.mk (blk_drew BK439.out)
       have n2_ := Aside0.mk (below_drew1 HB.out)
       clear BK436
       clear BK439
       clear HB
       have BK436 := n0_
       have BK439 := n1_
       have HB := n2_
       clear n0_ n1_ n2_
       have p441 : 0 ≤ (0 : Int) := (by omega)
       have q441 : 0 < (((rd_T44 l0_1 a1).f1).length : Int) := odA
       obtain ⟨ad441, e441, hx441_0⟩ := Kd.at_int HR438_1.out 0 p441 q441
       have hw441_0 := hx441_0
       (try rw [show ((0 : Int)).toNat = 0 from rfl] at hw441_0)
       (try rw [show 0 * 1 = 0 from rfl] at hw441_0)
       (try rw [Addr.add_zero'] at hw441_0)
       cases e441
       have qi441 : (0 < ((rd_T44 l0_1 a1).f1).length) = True := eq_true (by omega)
       (try rw [show ((0 : Int)).toNat = 0 from rfl] at hx441_0)
       (try rw [Addr.add_zero'] at hx441_0)
       replace hx441_0 := pw_cell_below HB.out hx441_0
       replace p441 := eq_true p441
       replace q441 := eq_true q441
       have p442 : 0 ≤ ((rd ((rd_T44 l0_1 a1).f1) 0) : Int) := odA
       have q442 : (rd ((rd_T44 l0_1 a1).f1) 0) < (l0_1.length : Int) := odA
       obtain ⟨ad442, A442_1, c442_1, A442_4, c442_4, A442_8, c442_8, A442_9, c442_9, A442_13, c442_13, A442_14, c442_14, A442_15, c442_15, e442, hx442_0, hx442_1, hx442_2, hx442_3, hx442_4, hx442_5, hx442_6, hx442_7, hx442_8, hx442_9, hx442_10, hx442_11, hx442_12, hx442_13, hx442_14, hx442_15, hl442_1, hi442_1, hl442_4, hi442_4, hl442_8, hi442_8, hl442_9, hi442_9, hl442_13, hi442_13, hl442_14, hi442_14, hl442_15, hi442_15⟩ := at_T44 HR0_1.out (rd ((rd_T44 l0_1 a1).f1) 0) p442 q442
       have hw442_15 := hx442_15
       have hw442_14 := hx442_14
       have hw442_13 := hx442_13
       have hw442_12 := hx442_12
       have hw442_11 := hx442_11
       have hw442_10 := hx442_10
       have hw442_9 := hx442_9
       have hw442_8 := hx442_8
       have hw442_7 := hx442_7
       have hw442_6 := hx442_6
       have hw442_5 := hx442_5
       have hw442_4 := hx442_4
       have hw442_3 := hx442_3
       have hw442_2 := hx442_2
       have hw442_1 := hx442_1
       have hw442_0 := hx442_0
       obtain rfl : ad438 = ad442 := (by injection e442)
       replace hx442_0 := pw_cell_below HB.out hx442_0
       replace hx442_1 := pw_cell_below HB.out hx442_1
       replace hx442_2 := pw_cell_below HB.out hx442_2
       replace hx442_3 := pw_cell_below HB.out hx442_3
       replace hx442_4 := pw_cell_below HB.out hx442_4
       replace hx442_5 := pw_cell_below HB.out hx442_5
       replace hx442_6 := pw_cell_below HB.out hx442_6
       replace hx442_7 := pw_cell_below HB.out hx442_7
       replace hx442_8 := pw_cell_below HB.out hx442_8
       replace hx442_9 := pw_cell_below HB.out hx442_9
       replace hx442_10 := pw_cell_below HB.out hx442_10
       replace hx442_11 := pw_cell_below HB.out hx442_11
       replace hx442_12 := pw_cell_below HB.out hx442_12
       replace hx442_13 := pw_cell_below HB.out hx442_13
       replace hx442_14 := pw_cell_below HB.out hx442_14
       replace hx442_15 := pw_cell_below HB.out hx442_15
       have HR442_1 := Aside0.mk hi442_1
       have HC442_1 := Aside0.mk hl442_1
       clear hi442_1 hl442_1
       have HR442_4 := Aside0.mk hi442_4
       have HC442_4 := Aside0.mk hl442_4
       clear hi442_4 hl442_4
       have HR442_8 := Aside0.mk hi442_8
       have HC442_8 := Aside0.mk hl442_8
       clear hi442_8 hl442_8
       have HR442_9 := Aside0.mk hi442_9
       have HC442_9 := Aside0.mk hl442_9
       clear hi442_9 hl442_9
       have HR442_13 := Aside0.mk hi442_13
       have HC442_13 := Aside0.mk hl442_13
       clear hi442_13 hl442_13
       have HR442_14 := Aside0.mk hi442_14
       have HC442_14 := Aside0.mk hl442_14
       clear hi442_14 hl442_14
       have HR442_15 := Aside0.mk hi442_15
       have HC442_15 := Aside0.mk hl442_15
       clear hi442_15 hl442_15
       replace p442 := eq_true p442
       replace q442 := eq_true q442
       refine start_ (n := 10) (S := fun w' => w'.cell? ⟨gb436, 0, none⟩ = some (.slice A0_0 l0_0.length c0_0) ∧ w'.cell? ⟨gb436, 1, none⟩ = some (.slice (some ad438) l0_1.length c0_1) ∧ w'.cell? ⟨gb439, 0, none⟩ = some (.int .i64 ((rd_T44 l0_1 a1).f0)) ∧ w'.cell? ⟨gb439, 1, none⟩ = some (.slice (some ad441) ((rd_T44 l0_1 a1).f1).length c438_1) ∧ w'.cell? ⟨gb439, 2, none⟩ = some (.string ((rd_T44 l0_1 a1).f2)) ∧ w'.cell? ⟨gb439, 3, none⟩ = some (.int .i64 ((rd_T44 l0_1 a1).f3)) ∧ w'.cell? ⟨gb439, 4, none⟩ = some (.slice A438_4 ((rd_T44 l0_1 a1).f4).length c438_4) ∧ w'.cell? ⟨gb439, 5, none⟩ = some (.int .i64 ((rd_T44 l0_1 a1).f5)) ∧ w'.cell? ⟨gb439, 6, none⟩ = some (.int .i64 ((rd_T44 l0_1 a1).f6)) ∧ w'.cell? ⟨gb439, 7, none⟩ = some (.int .i64 ((rd_T44 l0_1 a1).f7)) ∧ w'.cell? ⟨gb439, 8, none⟩ = some (.slice A438_8 ((rd_T44 l0_1 a1).f8).length c438_8) ∧ w'.cell? ⟨gb439, 9, none⟩ = some (.slice A438_9 ((rd_T44 l0_1 a1).f9).length c438_9) ∧ w'.cell? ⟨gb439, 10, none⟩ = some (.int .i64 ((rd_T44 l0_1 a1).f10)) ∧ w'.cell? ⟨gb439, 11, none⟩ = some (.int .i64 ((rd_T44 l0_1 a1).f11)) ∧ w'.cell? ⟨gb439, 12, none⟩ = some (.int .i64 ((rd_T44 l0_1 a1).f12)) ∧ w'.cell? ⟨gb439, 13, none⟩ = some (.slice A438_13 ((rd_T44 l0_1 a1).f13).length c438_13) ∧ w'.cell? ⟨gb439, 14, none⟩ = some (.slice A438_14 ((rd_T44 l0_1 a1).f14).length c438_14) ∧ w'.cell? ⟨gb439, 15, none⟩ = some (.slice A438_15 ((rd_T44 l0_1 a1).f15).length c438_15) ∧ w'.cell? ad441 = some (.int .i64 (rd ((rd_T44 l0_1 a1).f1) 0)) ∧ w'.cell? (ad438.add (((rd ((rd_T44 l0_1 a1).f1) 0)).toNat * 16)) = some (.int .i64 ((rd_T44 l0_1 (rd ((rd_T44 l0_1 a1).f1) 0)).f0)) ∧ w'.cell? ⟨(ad438.add (((rd ((rd_T44 l0_1 a1).f1) 0)).toNat * 16)).block, (ad438.add (((rd ((rd_T44 l0_1 a1).f1) 0)).toNat * 16)).off + 1, none⟩ = some (.slice A442_1 ((rd_T44 l0_1 (rd ((rd_T44 l0_1 a1).f1) 0)).f1).length c442_1) ∧ w'.cell? ⟨(ad438.add (((rd ((rd_T44 l0_1 a1).f1) 0)).toNat * 16)).block, (ad438.add (((rd ((rd_T44 l0_1 a1).f1) 0)).toNat * 16)).off + 2, none⟩ = some (.string ((rd_T44 l0_1 (rd ((rd_T44 l0_1 a1).f1) 0)).f2)) ∧ w'.cell? ⟨(ad438.add (((rd ((rd_T44 l0_1 a1).f1) 0)).toNat * 16)).block, (ad438.add (((rd ((rd_T44 l0_1 a1).f1) 0)).toNat * 16)).off + 3, none⟩ = some (.int .i64 ((rd_T44 l0_1 (rd ((rd_T44 l0_1 a1).f1) 0)).f3)) ∧ w'.cell? ⟨(ad438.add (((rd ((rd_T44 l0_1 a1).f1) 0)).toNat * 16)).block, (ad438.add (((rd ((rd_T44 l0_1 a1).f1) 0)).toNat * 16)).off + 4, none⟩ = some (.slice A442_4 ((rd_T44 l0_1 (rd ((rd_T44 l0_1 a1).f1) 0)).f4).length c442_4) ∧ w'.cell? ⟨(ad438.add (((rd ((rd_T44 l0_1 a1).f1) 0)).toNat * 16)).block, (ad438.add (((rd ((rd_T44 l0_1 a1).f1) 0)).toNat * 16)).off + 5, none⟩ = some (.int .i64 ((rd_T44 l0_1 (rd ((rd_T44 l0_1 a1).f1) 0)).f5)) ∧ w'.cell? ⟨(ad438.add (((rd ((rd_T44 l0_1 a1).f1) 0)).toNat * 16)).block, (ad438.add (((rd ((rd_T44 l0_1 a1).f1) 0)).toNat * 16)).off + 6, none⟩ = some (.int .i64 ((rd_T44 l0_1 (rd ((rd_T44 l0_1 a1).f1) 0)).f6)) ∧ w'.cell? ⟨(ad438.add (((rd ((rd_T44 l0_1 a1).f1) 0)).toNat * 16)).block, (ad438.add (((rd ((rd_T44 l0_1 a1).f1) 0)).toNat * 16)).off + 7, none⟩ = some (.int .i64 ((rd_T44 l0_1 (rd ((rd_T44 l0_1 a1).f1) 0)).f7)) ∧ w'.cell? ⟨(ad438.add (((rd ((rd_T44 l0_1 a1).f1) 0)).toNat * 16)).block, (ad438.add (((rd ((rd_T44 l0_1 a1).f1) 0)).toNat * 16)).off + 8, none⟩ = some (.slice A442_8 ((rd_T44 l0_1 (rd ((rd_T44 l0_1 a1).f1) 0)).f8).length c442_8) ∧ w'.cell? ⟨(ad438.add (((rd ((rd_T44 l0_1 a1).f1) 0)).toNat * 16)).block, (ad438.add (((rd ((rd_T44 l0_1 a1).f1) 0)).toNat * 16)).off + 9, none⟩ = some (.slice A442_9 ((rd_T44 l0_1 (rd ((rd_T44 l0_1 a1).f1) 0)).f9).length c442_9) ∧ w'.cell? ⟨(ad438.add (((rd ((rd_T44 l0_1 a1).f1) 0)).toNat * 16)).block, (ad438.add (((rd ((rd_T44 l0_1 a1).f1) 0)).toNat * 16)).off + 10, none⟩ = some (.int .i64 ((rd_T44 l0_1 (rd ((rd_T44 l0_1 a1).f1) 0)).f10)) ∧ w'.cell? ⟨(ad438.add (((rd ((rd_T44 l0_1 a1).f1) 0)).toNat * 16)).block, (ad438.add (((rd ((rd_T44 l0_1 a1).f1) 0)).toNat * 16)).off + 11, none⟩ = some (.int .i64 ((rd_T44 l0_1 (rd ((rd_T44 l0_1 a1).f1) 0)).f11)) ∧ w'.cell? ⟨(ad438.add (((rd ((rd_T44 l0_1 a1).f1) 0)).toNat * 16)).block, (ad438.add (((rd ((rd_T44 l0_1 a1).f1) 0)).toNat * 16)).off + 12, none⟩ = some (.int .i64 ((rd_T44 l0_1 (rd ((rd_T44 l0_1 a1).f1) 0)).f12)) ∧ w'.cell? ⟨(ad438.add (((rd ((rd_T44 l0_1 a1).f1) 0)).toNat * 16)).block, (ad438.add (((rd ((rd_T44 l0_1 a1).f1) 0)).toNat * 16)).off + 13, none⟩ = some (.slice A442_13 ((rd_T44 l0_1 (rd ((rd_T44 l0_1 a1).f1) 0)).f13).length c442_13) ∧ w'.cell? ⟨(ad438.add (((rd ((rd_T44 l0_1 a1).f1) 0)).toNat * 16)).block, (ad438.add (((rd ((rd_T44 l0_1 a1).f1) 0)).toNat * 16)).off + 14, none⟩ = some (.slice A442_14 ((rd_T44 l0_1 (rd ((rd_T44 l0_1 a1).f1) 0)).f14).length c442_14) ∧ w'.cell? ⟨(ad438.add (((rd ((rd_T44 l0_1 a1).f1) 0)).toNat * 16)).block, (ad438.add (((rd ((rd_T44 l0_1 a1).f1) 0)).toNat * 16)).off + 15, none⟩ = some (.slice A442_15 ((rd_T44 l0_1 (rd ((rd_T44 l0_1 a1).f1) 0)).f15).length c442_15)) (ds := []) #[O,O,O,O,O,O,O,O,O,O] (by kernel_rfl) rfl rfl ⟨(blk_cell BK436.out 0).trans rfl, (blk_cell BK436.out 1).trans rfl, (blk_cell BK439.out 0).trans rfl, (blk_cell BK439.out 1).trans rfl, (blk_cell BK439.out 2).trans rfl, (blk_cell BK439.out 3).trans rfl, (blk_cell BK439.out 4).trans rfl, (blk_cell BK439.out 5).trans rfl, (blk_cell BK439.out 6).trans rfl, (blk_cell BK439.out 7).trans rfl, (blk_cell BK439.out 8).trans rfl, (blk_cell BK439.out 9).trans rfl, (blk_cell BK439.out 10).trans rfl, (blk_cell BK439.out 11).trans rfl, (blk_cell BK439.out 12).trans rfl, (blk_cell BK439.out 13).trans rfl, (blk_cell BK439.out 14).trans rfl, (blk_cell BK439.out 15).trans rfl, (pw_cell_below HB.out hw441_0), (pw_cell_below HB.out hw442_0), (pw_cell_below HB.out hw442_1), (pw_cell_below HB.out hw442_2), (pw_cell_below HB.out hw442_3), (pw_cell_below HB.out hw442_4), (pw_cell_below HB.out hw442_5), (pw_cell_below HB.out hw442_6), (pw_cell_below HB.out hw442_7), (pw_cell_below HB.out hw442_8), (pw_cell_below HB.out hw442_9), (pw_cell_below HB.out hw442_10), (pw_cell_below HB.out hw442_11), (pw_cell_below HB.out hw442_12), (pw_cell_below HB.out hw442_13), (pw_cell_below HB.out hw442_14), (pw_cell_below HB.out hw442_15)⟩ (fun hHeld => ?_); refine with_tabW errataref20_Witness.tab6 errataref20_Witness.bits6 (fun HT_ HW_ => ?_)
       generalize wc.drew = w45 at BK436 BK439 HB HR442_1 HR442_13 HR442_14 HR442_15 HR442_4 HR442_8 HR442_9 hx441_0 hx442_0 hx442_1 hx442_10 hx442_11 hx442_12 hx442_13 hx442_14 hx442_15 hx442_2 hx442_3 hx442_4 hx442_5 hx442_6 hx442_7 hx442_8 hx442_9 hHeld ⊢
       refine pureA 0 48 #[J,O,O,O,O,O,O,O,O,O] ?_
       refine pureA 2 50 #[J,O,J,O,O,O,O,O,O,O] ?_
       refine takeA 1 49 #[J,J,J,O,O,O,O,O,O,O] ?_
       refine takeA 3 51 #[J,J,J,J,O,O,O,O,O,O] ?_
       refine pureA 4 52 #[J,J,J,J,J,O,O,O,O,O] ?_
       refine takeA 5 53 #[J,J,J,J,J,J,O,O,O,O] ?_
       refine pureA 6 54 #[J,J,J,J,J,J,J,O,O,O] ?_
       refine pureA 7 55 #[J,J,J,J,J,J,J,J,O,O] ?_
       refine takeA 8 56 #[J,J,J,J,J,J,J,J,J,O] ?_
       refine pureA 9 8 #[J,J,J,J,J,J,J,J,J,J] ?_
       refine done_ (done_of HT_.out (by kernel_rfl)) ?_
       try go_wp2
       go_loopg [9, 10] kj26 (fun kq v9 v10 w' => ∃ (x9_3 : List (S55)) (x10_3 : Int), v10 = .int .i64 x10_3 ∧ Aside0 (errataref20_Witness.l0 kq a2 ((rd_T44 l0_1 (rd ((rd_T44 l0_1 a1).f1) 0)).f15) x9_3 x10_3 = some r) ∧ Aside0 (kq ≤ kj26) ∧ Aside0 (Kd.S k55 55 w' w.heap.size (fun _ => True) v9 x9_3) ∧ Aside0 (w'.heap[gb436]? = some (.cells #[(.slice A0_0 l0_0.length c0_0), (.slice (some ad438) l0_1.length c0_1)] 25 (0, 0))) ∧ Aside0 (w'.heap[gb439]? = some (.cells #[.int .i64 ((rd_T44 l0_1 a1).f0), (.slice (some ad441) ((rd_T44 l0_1 a1).f1).length c438_1), .string ((rd_T44 l0_1 a1).f2), .int .i64 ((rd_T44 l0_1 a1).f3), (.slice A438_4 ((rd_T44 l0_1 a1).f4).length c438_4), .int .i64 ((rd_T44 l0_1 a1).f5), .int .i64 ((rd_T44 l0_1 a1).f6), .int .i64 ((rd_T44 l0_1 a1).f7), (.slice A438_8 ((rd_T44 l0_1 a1).f8).length c438_8), (.slice A438_9 ((rd_T44 l0_1 a1).f9).length c438_9), .int .i64 ((rd_T44 l0_1 a1).f10), .int .i64 ((rd_T44 l0_1 a1).f11), .int .i64 ((rd_T44 l0_1 a1).f12), (.slice A438_13 ((rd_T44 l0_1 a1).f13).length c438_13), (.slice A438_14 ((rd_T44 l0_1 a1).f14).length c438_14), (.slice A438_15 ((rd_T44 l0_1 a1).f15).length c438_15)] 44 (0, 0))) ∧ Aside0 (Below w.heap.size w w'))
       case atStart => exact ⟨(([] : List (S55))), (0), (by first | rfl | (simp; done) | (simp [*]; done)), H', ⟨Nat.le_refl _⟩, ⟨by first | exact Kd.S_nil _ _ _ _ _ | exact Kd.N_nil _ _ _ _ _ | exact Kd.V_nil _ _ _ _ _ | exact Kd.Q_nil _ _ _ _ _ | exact Kd.R_nil _ _ _ _ _⟩, ⟨blk_move BK436.out⟩, ⟨blk_move BK439.out⟩, ⟨by repeat (first | (with_reducible first | exact HB.out | apply below_alloc | apply pw_below_drewN | apply below_drew1 | refine below_set ?_ GE436.out | refine below_set ?_ GE439.out) | exact HB.out)⟩⟩
       case round =>
        clear H'
        try clear c1
        try clear c2
        try clear p2
        try clear c3
        try clear c4
        try clear p4
        try clear q4
        try clear hx4
        try clear qi4
        try clear c7
        try clear c8
        try clear c8b0
        try clear c11
        try clear c11b0
        try clear c15
        try clear c15b0
        try clear c22
        try clear c23
        try clear c24
        try clear c25
        try clear c25b0
        try clear c26
        try clear c26b0
        try clear c30
        try clear c33
        try clear c34
        try clear c37
        try clear c41
        try clear c42
        try clear c42b0
        try clear c42b1
        try clear c43
        try clear c43b0
        try clear p43
        try clear q43
        try clear hx43
        try clear c44
        try clear c44b0
        try clear p44
        try clear q44
        try clear hx44
        try clear qi44
        try clear hz12
        try clear hz14
        try clear hz16
        try clear hz18
        try clear hz19
        try clear hz21
        try clear hz22
        try clear hz28
        try clear hz31
        try clear hz35
        try clear hz38
        try clear hz40
        try clear hz9
        try clear hx438_0
        try clear hx438_1
        try clear hx438_10
        try clear hx438_11
        try clear hx438_12
        try clear hx438_13
        try clear hx438_14
        try clear hx438_15
        try clear hx438_2
        try clear hx438_3
        try clear hx438_4
        try clear hx438_5
        try clear hx438_6
        try clear hx438_7
        try clear hx438_8
        try clear hx438_9
        try clear hx441_0
        try clear hx442_0
        try clear hx442_1
        try clear hx442_10
        try clear hx442_11
        try clear hx442_12
        try clear hx442_13
        try clear hx442_14
        try clear hx442_15
        try clear hx442_2
        try clear hx442_3
        try clear hx442_4
        try clear hx442_5
        try clear hx442_6
        try clear hx442_7
        try clear hx442_8
        try clear hx442_9
        try clear p2
        try clear p4
        try clear p438
        try clear p441
        try clear p442
        try clear q4
        try clear q438
        try clear q441
        try clear q442
        obtain ⟨x9_3, x10_3, rfl, HA, HK3, HO_9, BK436, BK439, HB⟩ := hrel
        cases gk with
        | zero => exact absurd HA.out (by simp [errataref20_Witness.l0])
        | succ k3 =>
         have H := HA.out
         clear HA
         simp only [errataref20_Witness.l0] at H
         by_cases c46 : x10_3 < a2
         ·
          rw [if_pos c46] at H
          have c46b0 : decide (x10_3 < a2) = true := decide_eq_true c46
          clear c46
          have H' := Aside0.mk H
          clear H
          go_wp2_with (first | ((with_reducible refine gate_dst (N := 11) rfl ?_); (try (refine gate_guard (by rfl) ?_; dsimp only)); refine box_event ?hg (N := 11) ?hd (cs := #[.int .i64 0, .slice none 0 0, .int .i64 0]) (t := 55) ?hr ?_; (case hd => rfl); (case hg => rfl); (case hr => first | (go_simp; done) | (go_simp; rfl)); intro gb443 hg w47 hbox hb; have n0_ := Aside0.mk (Kd.S_below (Kd.S_elderB (by (with_reducible repeat (first | apply Kd.S_alloc | apply Kd.S_drewN | apply Kd.S_drew)); exact HO_9.out) gb443 (Nat.le_of_eq hg.symm)) hb); have n1_ := Aside0.mk (blk_keepA BK436.out hb); have n2_ := Aside0.mk (blk_keepA BK439.out hb); have n3_ := Aside0.mk (below_stepA hb); have n4_ := Aside0.mk (hbox); have n5_ := Aside0.mk ((by rw [hg]; exact below_sizeA : w.heap.size ≤ gb443)); have n6_ := Aside0.mk ((by rw [hg]; exact below_sizeA : w.heap.size ≤ gb443)); have n7_ := Aside0.mk ((by rw [hg]; exact Nat.ne_of_lt (blk_ltKA BK436.out) : gb436 ≠ gb443)); have n8_ := Aside0.mk ((by rw [hg]; exact Nat.ne_of_gt (blk_ltKA BK436.out) : gb443 ≠ gb436)); have n9_ := Aside0.mk ((by rw [hg]; exact Nat.ne_of_lt (blk_ltKA BK439.out) : gb439 ≠ gb443)); have n10_ := Aside0.mk ((by rw [hg]; exact Nat.ne_of_gt (blk_ltKA BK439.out) : gb443 ≠ gb439)); clear HO_9; clear BK436; clear BK439; clear HB; have HO_9 := n0_; have BK436 := n1_; have BK439 := n2_; have HB := n3_; have BK443 := n4_; have GW443 := n5_; have GE443 := n6_; have NB436_443 := n7_; have NB443_436 := n8_; have NB439_443 := n9_; have NB443_439 := n10_; clear n0_ n1_ n2_ n3_ n4_ n5_ n6_ n7_ n8_ n9_ n10_; clear hb hbox hg; have hnb48 := NB443_436.out; have hnc48 := NB436_443.out; have hnb49 := NB443_439.out; have hnc49 := NB439_443.out; have hz50 := blk3 BK443.out))
          go_loopg [12] k3 (fun kq v12 w' => ∃ (x12_4 : Int) (x444001_4 : List (S70)) (u444001 : Value), v12 = .int .i64 x12_4 ∧ Aside0 (errataref20_Witness.l1 kq a2 ((rd_T44 l0_1 (rd ((rd_T44 l0_1 a1).f1) 0)).f15) x9_3 x10_3 x12_4 (wrap64 (30001 * x10_3)) x444001_4 1 = some r) ∧ Aside0 (kq ≤ k3) ∧ Aside0 (Kd.S k55 55 w' w.heap.size (fun k_ => some k_ ≠ (u444001 : Value).ownBlock ∧ k_ ≠ gb443) u9 x9_3) ∧ Aside0 (Kd.R k70 70 w' w.heap.size (fun _ => True) u444001 x444001_4) ∧ Aside0 (w'.heap[gb436]? = some (.cells #[(.slice A0_0 l0_0.length c0_0), (.slice (some ad438) l0_1.length c0_1)] 25 (0, 0))) ∧ Aside0 (w'.heap[gb439]? = some (.cells #[.int .i64 ((rd_T44 l0_1 a1).f0), (.slice (some ad441) ((rd_T44 l0_1 a1).f1).length c438_1), .string ((rd_T44 l0_1 a1).f2), .int .i64 ((rd_T44 l0_1 a1).f3), (.slice A438_4 ((rd_T44 l0_1 a1).f4).length c438_4), .int .i64 ((rd_T44 l0_1 a1).f5), .int .i64 ((rd_T44 l0_1 a1).f6), .int .i64 ((rd_T44 l0_1 a1).f7), (.slice A438_8 ((rd_T44 l0_1 a1).f8).length c438_8), (.slice A438_9 ((rd_T44 l0_1 a1).f9).length c438_9), .int .i64 ((rd_T44 l0_1 a1).f10), .int .i64 ((rd_T44 l0_1 a1).f11), .int .i64 ((rd_T44 l0_1 a1).f12), (.slice A438_13 ((rd_T44 l0_1 a1).f13).length c438_13), (.slice A438_14 ((rd_T44 l0_1 a1).f14).length c438_14), (.slice A438_15 ((rd_T44 l0_1 a1).f15).length c438_15)] 44 (0, 0))) ∧ Aside0 (w'.heap[gb443]? = some (.cells #[.int .i64 (wrap64 (30001 * x10_3)), u444001, .int .i64 1] 55 (0, 0))) ∧ Aside0 (Below w.heap.size w w'))
          case atStart => exact ⟨(0), (([] : List (S70))), (.slice none 0 0), (by first | rfl | (simp; done) | (simp [*]; done)), H', ⟨Nat.le_refl _⟩, ⟨by (with_reducible repeat (first | apply Kd.S_alloc | apply Kd.S_drewN | apply Kd.S_drew)); exact Kd.S_mono (Kd.S_far (p := ⟨gb443, 2, none⟩) (Kd.S_far (p := ⟨gb443, 1, none⟩) (Kd.S_far (p := ⟨gb443, 0, none⟩) (Kd.S_mono HO_9.out (fun k_ hk => (⟨hk, hk.2⟩ : _ ∧ k_ ≠ gb443))) (fun _ hk => hk.2) (.int .i64 (wrap64 (30001 * x10_3)))) (fun _ hk => hk.2) (.slice none 0 0)) (fun _ hk => hk.2) (.int .i64 1)) (fun _ hk => ⟨(by simp [Value.ownBlock]), hk.1.2⟩)⟩, ⟨by first | exact Kd.R_nil _ _ _ _ _ | exact Kd.N_nil _ _ _ _ _ | exact Kd.V_nil _ _ _ _ _ | exact Kd.Q_nil _ _ _ _ _ | exact Kd.S_nil _ _ _ _ _⟩, ⟨blk_move BK436.out⟩, ⟨blk_move BK439.out⟩, ⟨blk_move BK443.out⟩, ⟨by repeat (first | (with_reducible first | exact HB.out | apply below_alloc | apply pw_below_drewN | apply below_drew1 | refine below_set ?_ GE436.out | refine below_set ?_ GE439.out | refine below_set ?_ GE443.out) | exact HB.out)⟩⟩
          case round =>
           clear H'
           try clear c1
           try clear c2
           try clear p2
           try clear c3
           try clear c4
           try clear p4
           try clear q4
           try clear hx4
           try clear qi4
           try clear p6
           try clear c7
           try clear c8
           try clear c8b0
           try clear c11
           try clear c11b0
           try clear c15
           try clear c15b0
           try clear c22
           try clear c23
           try clear c24
           try clear c25
           try clear c25b0
           try clear c26
           try clear c26b0
           try clear c30
           try clear c33
           try clear c34
           try clear c37
           try clear c41
           try clear c42
           try clear c42b0
           try clear c42b1
           try clear c43
           try clear c43b0
           try clear p43
           try clear q43
           try clear hx43
           try clear c44
           try clear c44b0
           try clear p44
           try clear q44
           try clear hx44
           try clear qi44
           try clear c46
           try clear c46b0
           try clear c48
           try clear c49
           try clear hz12
           try clear hz14
           try clear hz16
           try clear hz18
           try clear hz19
           try clear hz21
           try clear hz22
           try clear hz28
           try clear hz31
           try clear hz35
           try clear hz38
           try clear hz40
           try clear hz50
           try clear hz9
           try clear hx438_0
           try clear hx438_1
           try clear hx438_10
           try clear hx438_11
           try clear hx438_12
           try clear hx438_13
           try clear hx438_14
           try clear hx438_15
           try clear hx438_2
           try clear hx438_3
           try clear hx438_4
           try clear hx438_5
           try clear hx438_6
           try clear hx438_7
           try clear hx438_8
           try clear hx438_9
           try clear hx441_0
           try clear hx442_0
           try clear hx442_1
           try clear hx442_10
           try clear hx442_11
           try clear hx442_12
           try clear hx442_13
           try clear hx442_14
           try clear hx442_15
           try clear hx442_2
           try clear hx442_3
           try clear hx442_4
           try clear hx442_5
           try clear hx442_6
           try clear hx442_7
           try clear hx442_8
           try clear hx442_9
           try clear p2
           try clear p4
           try clear p43
           try clear p438
           try clear p44
           try clear p441
           try clear p442
           try clear q4
           try clear q43
           try clear q438
           try clear q44
           try clear q441
           try clear q442
           obtain ⟨x12_4, x444001_4, u444001, rfl, HA, HK4, HO_9, HO_444001, BK436, BK439, BK443, HB⟩ := hrel
           cases gk with
           | zero => exact absurd HA.out (by simp [errataref20_Witness.l1])
           | succ k4 =>
            have H := HA.out
            clear HA
            simp only [errataref20_Witness.l1] at H
            by_cases c51 : x12_4 < (((rd_T44 l0_1 (rd ((rd_T44 l0_1 a1).f1) 0)).f15).length : Int)
            ·
             rw [if_pos c51] at H
             have c51b0 : decide (x12_4 < (((rd_T44 l0_1 (rd ((rd_T44 l0_1 a1).f1) 0)).f15).length : Int)) = true := decide_eq_true c51
             clear c51
             by_cases c52 : 0 ≤ x12_4
             case neg => rw [if_neg c52] at H; exact absurd H (by simp)
             rw [if_pos c52] at H
             have c52b0 : decide (0 ≤ x12_4) = true := decide_eq_true c52
             clear c52
             replace H := Option.bind_eq_some_iff.mp H
             obtain ⟨t445, A530, H⟩ := H
             try dsimp only at H
             have A53 := Aside0.mk A530
             clear A530
             by_cases c54 : t445 = true
             ·
              subst c54
              rw [if_pos rfl] at H
              by_cases c55 : x444001_4.length < 4398046511104
              case neg => rw [if_neg c55] at H; exact absurd H (by simp)
              rw [if_pos c55] at H
              have LMc55 := Aside0.mk c55
              clear c55
              obtain ⟨y447, hy447⟩ : ∃ y_ : List (S70), y_ = (x444001_4 ++ [(⟨(rd_T50 ((rd_T44 l0_1 (rd ((rd_T44 l0_1 a1).f1) 0)).f15) x12_4).f1, 0, (⟨#[]⟩ : ByteArray)⟩ : S70)]) := ⟨_, rfl⟩
              replace H : (errataref20_Witness.l1 k4 a2 ((rd_T44 l0_1 (rd ((rd_T44 l0_1 a1).f1) 0)).f15) x9_3 x10_3 (wrap64 (x12_4 + 1)) (wrap64 (30001 * x10_3)) y447 1) = some r := by first | (rw [hy447]; with_reducible exact H) | (have H2_ := (Option.bind_some _ _).symm.trans H; rw [hy447]; with_reducible exact H2_) | (have H2_ := (Option.bind_some _ _).symm.trans H; with_reducible exact H2_) | with_reducible exact H | (rw [hy447]; exact H) | exact H
              have Ny447 := Aside0.mk hy447
              clear hy447
              have H' := Aside0.mk H
              clear H
              have p444 : 0 ≤ (x12_4 : Int) := odA
              have q444 : x12_4 < (((rd_T44 l0_1 (rd ((rd_T44 l0_1 a1).f1) 0)).f15).length : Int) := odA
              obtain ⟨ad444, e444, hx444_0, hx444_1, hx444_2⟩ := at_T50 HR442_15.out x12_4 p444 q444
              cases e444
              replace hx444_0 := pw_cell_below HB.out hx444_0
              replace hx444_1 := pw_cell_below HB.out hx444_1
              replace hx444_2 := pw_cell_below HB.out hx444_2
              replace p444 := eq_true p444
              replace q444 := eq_true q444
              try go_wp2_with (first | ((with_reducible refine gate_callee (f := 34) rfl ?_); refine goesL_ (some 76) rfl rfl Try.func34 (by kernel_rfl) rfl #[.int .i64 ((rd_T50 ((rd_T44 l0_1 (rd ((rd_T44 l0_1 a1).f1) 0)).f15) x12_4).f1), .int .i64 0, .int .i64 2] rfl mapA ?_; (with_reducible refine (errataref20_within.calls _ 0 2 true _ A53.out).mono ?_); rintro e w' ⟨rfl, ⟨nd, rfl⟩⟩; refine ⟨_, rfl, ?_⟩; (try (rw [drewN_self wr]; generalize hq_ : World.drewN wr _ = wr; have n0_ : Aside0 (Kd.R k70 70 wr w.heap.size (fun _ => True) u444001 x444001_4) := ⟨by rw [← hq_]; exact (by (with_reducible repeat (first | apply Kd.R_alloc | apply Kd.R_drewN | apply Kd.R_drew)); exact HO_444001.out)⟩; have n1_ : Aside0 (Kd.S k55 55 wr w.heap.size (fun k_ => some k_ ≠ (u444001 : Value).ownBlock ∧ k_ ≠ gb443) u9 x9_3) := ⟨by rw [← hq_]; exact (by (with_reducible repeat (first | apply Kd.S_alloc | apply Kd.S_drewN | apply Kd.S_drew)); exact HO_9.out)⟩; have n2_ : Aside0 (wr.heap[gb436]? = some (.cells #[.slice A0_0 l0_0.length c0_0, .slice (some ad438) l0_1.length c0_1] 25 (0, 0))) := ⟨by rw [← hq_]; exact (blk_move BK436.out)⟩; have n3_ : Aside0 (wr.heap[gb439]? = some (.cells (A44 (rd_T44 l0_1 a1) (some ad441) c438_1 A438_4 c438_4 A438_8 c438_8 A438_9 c438_9 A438_13 c438_13 A438_14 c438_14 A438_15 c438_15) 44 (0, 0))) := ⟨by rw [← hq_]; exact (blk_move BK439.out)⟩; have n4_ : Aside0 (wr.heap[gb443]? = some (.cells #[.int .i64 (wrap64 (30001 * x10_3)), u444001, .int .i64 1] 55 (0, 0))) := ⟨by rw [← hq_]; exact (blk_move BK443.out)⟩; have n5_ : Aside0 (Below w.heap.size w wr) := ⟨by rw [← hq_]; exact belowA⟩; clear HO_444001 HO_9 BK436 BK439 BK443 HB hq_; have HO_444001 := n0_; have HO_9 := n1_; have BK436 := n2_; have BK439 := n3_; have BK443 := n4_; have HB := n5_; clear n0_ n1_ n2_ n3_ n4_ n5_))))
              have n0_ := Aside0.mk (Kd.S_drew HO_9.out)
              have n1_ := Aside0.mk (Kd.R_drew HO_444001.out)
              have n2_ := Aside0.mk (blk_drew BK436.out)
              have n3_ := Aside0.mk (blk_drew BK439.out)
              have n4_ := Aside0.mk (blk_drew BK443.out)
              have n5_ := Aside0.mk (below_drew1 HB.out)
              clear HO_9
              clear HO_444001
              clear BK436
              clear BK439
              clear BK443
              clear HB
              have HO_9 := n0_
              have HO_444001 := n1_
              have BK436 := n2_
              have BK439 := n3_
              have BK443 := n4_
              have HB := n5_
              clear n0_ n1_ n2_ n3_ n4_ n5_
              have p446 : 0 ≤ (x12_4 : Int) := odA
              have q446 : x12_4 < (((rd_T44 l0_1 (rd ((rd_T44 l0_1 a1).f1) 0)).f15).length : Int) := odA
              obtain ⟨ad446, e446, hx446_0, hx446_1, hx446_2⟩ := at_T50 HR442_15.out x12_4 p446 q446
              have hw446_2 := hx446_2
              have hw446_1 := hx446_1
              have hw446_0 := hx446_0
              obtain rfl : ad444 = ad446 := (by injection e446)
              replace hx446_0 := pw_cell_below HB.out hx446_0
              replace hx446_1 := pw_cell_below HB.out hx446_1
              replace hx446_2 := pw_cell_below HB.out hx446_2
              replace p446 := eq_true p446
              replace q446 := eq_true q446
              refine start_ (n := 12) (S := fun w' => w'.cell? ⟨gb443, 0, none⟩ = some (.int .i64 (wrap64 (30001 * x10_3))) ∧ w'.cell? ⟨gb443, 1, none⟩ = some (u444001) ∧ w'.cell? ⟨gb443, 2, none⟩ = some (.int .i64 1) ∧ w'.cell? (ad444.add ((x12_4).toNat * 3)) = some (.string ((rd_T50 ((rd_T44 l0_1 (rd ((rd_T44 l0_1 a1).f1) 0)).f15) x12_4).f0)) ∧ w'.cell? ⟨(ad444.add ((x12_4).toNat * 3)).block, (ad444.add ((x12_4).toNat * 3)).off + 1, none⟩ = some (.int .i64 ((rd_T50 ((rd_T44 l0_1 (rd ((rd_T44 l0_1 a1).f1) 0)).f15) x12_4).f1)) ∧ w'.cell? ⟨(ad444.add ((x12_4).toNat * 3)).block, (ad444.add ((x12_4).toNat * 3)).off + 2, none⟩ = some (.string ((rd_T50 ((rd_T44 l0_1 (rd ((rd_T44 l0_1 a1).f1) 0)).f15) x12_4).f2))) (ds := [11]) #[O,O,O,O,O,O,O,O,O,O,O,O] (by kernel_rfl) rfl rfl ⟨(blk_cell BK443.out 0).trans rfl, (blk_cell BK443.out 1).trans rfl, (blk_cell BK443.out 2).trans rfl, (pw_cell_below HB.out hw446_0), (pw_cell_below HB.out hw446_1), (pw_cell_below HB.out hw446_2)⟩ (fun hHeld => ?_); refine with_tabW errataref20_Witness.tab17 errataref20_Witness.bits17 (fun HT_ HW_ => ?_)
              generalize wr.drew = w56 at HO_9 HO_444001 BK436 BK439 BK443 HB hx446_0 hx446_1 hx446_2 hHeld ⊢
              refine pureA 0 78 #[J,O,O,O,O,O,O,O,O,O,O,O] ?_
              refine pureA 2 80 #[J,O,J,O,O,O,O,O,O,O,O,O] ?_
              refine pureA 3 81 #[J,O,J,J,O,O,O,O,O,O,O,O] ?_
              refine pureA 4 82 #[J,O,J,J,J,O,O,O,O,O,O,O] ?_
              refine pureA 5 83 #[J,O,J,J,J,J,O,O,O,O,O,O] ?_
              refine takeA 1 79 #[J,J,J,J,J,J,O,O,O,O,O,O] ?_
              refine takeA 6 84 #[J,J,J,J,J,J,J,O,O,O,O,O] ?_
              refine pureA 7 85 #[J,J,J,J,J,J,J,J,O,O,O,O] ?_
              refine one_ (i := 8) (N := some 86) #[J,J,J,J,J,J,J,J,J,O,O,O] rfl rfl (one_of HT_.out (by kernel_rfl)) (by decide) (fun K hK => ?_)
              refine value_ (w1 := ?_) (v := ?_) (by rfl) rfl ?_ ?_
              rotate_left 2
              ·
               go_simp
               constructor
               ·
                rfl
               ·
                rfl
              refine hK.out _ _ ⟨(blk_cell (blk_alloc BK443.out _) 0).trans rfl, (blk_cell (blk_alloc BK443.out _) 1).trans rfl, (blk_cell (blk_alloc BK443.out _) 2).trans rfl, (World.cell?_alloc_lt _ _ _ (World.block_lt_of_cell? _ _ ((pw_cell_below HB.out hw446_0)))).trans ((pw_cell_below HB.out hw446_0)), (World.cell?_alloc_lt _ _ _ (World.block_lt_of_cell? _ _ ((pw_cell_below HB.out hw446_1)))).trans ((pw_cell_below HB.out hw446_1)), (World.cell?_alloc_lt _ _ _ (World.block_lt_of_cell? _ _ ((pw_cell_below HB.out hw446_2)))).trans ((pw_cell_below HB.out hw446_2))⟩ (fun hHeld => ?_)
              clear hK K
              refine norm_ (a' := ?_) ?_ ?_
              rotate_left
              ·
               show Act.put _ (some 86) _ = _
               simp only [Act.put, List.setIfInBounds_toArray, List.set_cons_zero, List.set_cons_succ, i64_w, i32_w]
               rfl
              refine one_ (i := 9) (N := some 87) #[J,J,J,J,J,J,J,J,J,J,O,O] rfl rfl (one_of HT_.out (by kernel_rfl)) (by decide) (fun K hK => ?_)
              refine Kd.R_append_step k70 (w0 := w) w.heap.size (by rfl) (.tmp 79) (.tmp 86) 53 70 (.agg #[(.int .i64 0), (.int .i64 0), (.string ⟨#[]⟩)]) 32 rfl Try.underlying53 info70 rfl (by decide) (by omega) u444001 x444001_4 (⟨(rd_T50 ((rd_T44 l0_1 (rd ((rd_T44 l0_1 a1).f1) 0)).f15) x12_4).f1, 0, (⟨#[]⟩ : ByteArray)⟩ : S70) [.int .i64 ((rd_T50 ((rd_T44 l0_1 (rd ((rd_T44 l0_1 a1).f1) 0)).f15) x12_4).f1), .int .i64 0, .string (⟨#[]⟩ : ByteArray)] (fun _ => True) (fun _ => False) rfl rfl ?aP (fun _ hk => hk.elim) ?aF ?aO ?aB ?aS ?aL ?_
              (case aP => exact k70_mkM _ _ _ (⟨(rd_T50 ((rd_T44 l0_1 (rd ((rd_T44 l0_1 a1).f1) 0)).f15) x12_4).f1, 0, (⟨#[]⟩ : ByteArray)⟩ : S70))
              (case aB => exact belowA)
              (case aF => exact (fun _ _ => trivial))
              (case aO => exact (by (with_reducible repeat (first | apply Kd.R_alloc | apply Kd.R_drewN | apply Kd.R_drew)); exact HO_444001.out))
              (case aS => exact below_sizeA)
              (case aL => have := LMc55.out; omega)
              intro v448 w57 ho hb hg hat
              rw [← Ny447.out] at ho
              have n0_ := Aside0.mk (Kd.S_after (ok := (fun k_ => k_ ≠ gb443)) (by (with_reducible repeat (first | apply Kd.S_alloc | apply Kd.S_drewN | apply Kd.S_drew)); exact Kd.S_mono HO_9.out (fun _ hk => ⟨hk.2, hk.1⟩)) hg hat)
              have n1_ := Aside0.mk (blk_grown (g := gb436) (o := .cells #[.slice A0_0 l0_0.length c0_0, .slice (some ad438) l0_1.length c0_1] 25 (0, 0)) (blk_move BK436.out) hg (Kd.R_ne HO_444001.out BK436.out (by decide)))
              have n2_ := Aside0.mk (blk_grown (g := gb439) (o := .cells (A44 (rd_T44 l0_1 a1) (some ad441) c438_1 A438_4 c438_4 A438_8 c438_8 A438_9 c438_9 A438_13 c438_13 A438_14 c438_14 A438_15 c438_15) 44 (0, 0)) (blk_move BK439.out) hg (Kd.R_ne HO_444001.out BK439.out (by decide)))
              have n3_ := Aside0.mk (blk_grown (g := gb443) (o := .cells #[.int .i64 (wrap64 (30001 * x10_3)), u444001, .int .i64 1] 55 (0, 0)) (blk_move BK443.out) hg (Kd.R_ne HO_444001.out BK443.out (by decide)))
              have n4_ := Aside0.mk (hb)
              have n5_ := Aside0.mk (ho)
              clear HO_9
              clear BK436
              clear BK439
              clear BK443
              clear HB
              clear HO_444001
              have HO_9 := n0_
              have BK436 := n1_
              have BK439 := n2_
              have BK443 := n3_
              have HB := n4_
              have HO449 := n5_
              clear n0_ n1_ n2_ n3_ n4_ n5_
              clear ho hb hg hat
              obtain ⟨Ao58, co58, eo58⟩ := Kd.R_slice HO449.out
              (first | subst eo58 | (injection eo58 with f1_ f2_ f3_; have f4_ := f1_.symm; have f5_ := f3_.symm; clear f1_ f2_ f3_; subst f4_; subst f5_))
              refine hK.out _ _ ⟨(blk_cell BK443.out 0).trans rfl, (blk_cell BK443.out 1).trans rfl, (blk_cell BK443.out 2).trans rfl, (pw_cell_below HB.out hw446_0), (pw_cell_below HB.out hw446_1), (pw_cell_below HB.out hw446_2)⟩ (fun hHeld => ?_)
              clear hK K
              refine norm_ (a' := ?_) ?_ ?_
              rotate_left
              ·
               show Act.put _ (some 87) _ = _
               simp only [Act.put, List.setIfInBounds_toArray, List.set_cons_zero, List.set_cons_succ, i64_w, i32_w]
               rfl
              refine pureA 10 88 #[J,J,J,J,J,J,J,J,J,J,J,O] ?_
              refine last_ (i := 11) (N := none) #[J,J,J,J,J,J,J,J,J,J,J,J] rfl rfl (one_of HT_.out (by kernel_rfl)) (by decide) (fun K hK => ?_)
              have hs59 : w57.cell? ⟨gb443, 1, none⟩ = some (u444001) := (blk_cell BK443.out 1).trans rfl
              have hfs59 := blk_frozen BK443.out 1
              have hns59_0 := NB436_443.out
              have hns59_1 := NB439_443.out
              have hms59_0 := NB443_436.out
              have hms59_1 := NB443_439.out
              refine skip_ (w1 := ?_) (by rfl) rfl ?_ ?_
              rotate_left
              ·
               go_simp
               rfl
              refine hK.out _ _ ?_
              clear hK K
              refine done_ (done_of HT_.out (by kernel_rfl)) ?_
              try go_wp2
              go_roundg k4
              case measure => have := HJ3.out; have := HJ26.out; have := HK3.out; have := HK4.out; omega
              case rel => exact ⟨(wrap64 (x12_4 + 1)), (y447), (.slice Ao58 y447.length co58), (by first | rfl | (simp; done) | (simp [*]; done)), H', ⟨by have := HJ3.out; have := HJ26.out; have := HK3.out; have := HK4.out; omega⟩, ⟨by (with_reducible repeat (first | apply Kd.S_alloc | apply Kd.S_drewN | apply Kd.S_drew)); exact Kd.S_mono (Kd.S_far (p := ⟨gb443, 1, none⟩) (Kd.S_mono HO_9.out (fun k_ hk => (⟨hk, hk.1⟩ : _ ∧ k_ ≠ gb443))) (fun _ hk => hk.2) (.slice Ao58 y447.length co58)) (fun _ hk => ⟨hk.1.2, hk.1.1⟩)⟩, ⟨by (with_reducible repeat (first | apply Kd.R_alloc | apply Kd.R_drewN | apply Kd.R_drew)); exact Kd.R_mono (Kd.R_far (p := ⟨gb443, 1, none⟩) (Kd.R_types HO449.out BK443.out (by decide)) (fun _ hk => hk.2) (.slice Ao58 y447.length co58)) (fun _ hk => trivial)⟩, ⟨blk_move BK436.out⟩, ⟨blk_move BK439.out⟩, ⟨blk_move BK443.out⟩, ⟨by repeat (first | (with_reducible first | exact HB.out | apply below_alloc | apply pw_below_drewN | apply below_drew1 | refine below_set ?_ GE436.out | refine below_set ?_ GE439.out | refine below_set ?_ GE443.out) | exact HB.out)⟩⟩
             ·
              replace c54 := Bool.eq_false_iff.mpr c54
              subst c54
              rw [if_neg (show ¬ (false = true) by decide)] at H
              obtain rfl := Option.some.inj H
              have p444 : 0 ≤ (x12_4 : Int) := odA
              have q444 : x12_4 < (((rd_T44 l0_1 (rd ((rd_T44 l0_1 a1).f1) 0)).f15).length : Int) := odA
              obtain ⟨ad444, e444, hx444_0, hx444_1, hx444_2⟩ := at_T50 HR442_15.out x12_4 p444 q444
              cases e444
              replace hx444_0 := pw_cell_below HB.out hx444_0
              replace hx444_1 := pw_cell_below HB.out hx444_1
              replace hx444_2 := pw_cell_below HB.out hx444_2
              replace p444 := eq_true p444
              replace q444 := eq_true q444
              go_wp2_with (first | ((with_reducible refine gate_callee (f := 34) rfl ?_); refine goesL_ (some 76) rfl rfl Try.func34 (by kernel_rfl) rfl #[.int .i64 ((rd_T50 ((rd_T44 l0_1 (rd ((rd_T44 l0_1 a1).f1) 0)).f15) x12_4).f1), .int .i64 0, .int .i64 2] rfl mapA ?_; (with_reducible refine (errataref20_within.calls _ 0 2 false _ A53.out).mono ?_); rintro e w' ⟨rfl, ⟨nd, rfl⟩⟩; refine ⟨_, rfl, ?_⟩))
              go_ret
              exact ⟨_, by first | rfl | (simp [errW_none, errW_some] <;> rfl) | (simp [*, errW_none, errW_some] <;> rfl), by first | exact Kd.S_nil _ _ _ _ _ | exact Kd.N_nil _ _ _ _ _ | exact Kd.V_nil _ _ _ _ _ | exact Kd.Q_nil _ _ _ _ _ | exact Kd.R_nil _ _ _ _ _, belowA⟩
            ·
             rw [if_neg c51] at H
             have c51b0 : decide (x12_4 < (((rd_T44 l0_1 (rd ((rd_T44 l0_1 a1).f1) 0)).f15).length : Int)) = false := decide_eq_false c51
             clear c51
             by_cases c60 : x9_3.length < 3518437208883
             case neg => rw [if_neg c60] at H; exact absurd H (by simp)
             rw [if_pos c60] at H
             have LMc60 := Aside0.mk c60
             clear c60
             obtain ⟨y450, hy450⟩ : ∃ y_ : List (S55), y_ = (x9_3 ++ [(⟨(wrap64 (30001 * x10_3)), x444001_4, 1⟩ : S55)]) := ⟨_, rfl⟩
             replace H : (errataref20_Witness.l0 k4 a2 ((rd_T44 l0_1 (rd ((rd_T44 l0_1 a1).f1) 0)).f15) y450 (wrap64 (x10_3 + 1))) = some r := by first | (rw [hy450]; with_reducible exact H) | (have H2_ := (Option.bind_some _ _).symm.trans H; rw [hy450]; with_reducible exact H2_) | (have H2_ := (Option.bind_some _ _).symm.trans H; with_reducible exact H2_) | with_reducible exact H | (rw [hy450]; exact H) | exact H
             have Ny450 := Aside0.mk hy450
             clear hy450
             have H' := Aside0.mk H
             clear H
             have hnb61 := NB443_436.out
             have hnc61 := NB436_443.out
             have hnb62 := NB443_439.out
             have hnc62 := NB439_443.out
             have hz63 := blk3 BK443.out
             obtain ⟨Ao65, co65, eo65⟩ := Kd.R_slice HO_444001.out
             subst eo65
             go_wp2_with (first | ((with_reducible refine gate_builtin (b := .append) (xs := #[.tmp 89, .tmp 91]) rfl ?_); (try (refine gate_guard (by rfl) ?_; dsimp only)); at_builtin; refine Kd.S_append k55 (w0 := w) w.heap.size rfl (.tmp 89) (.tmp 91) 51 55 (.agg #[(.int .i64 0), (.slice none 0 0), (.int .i64 0)]) 40 rfl Try.underlying51 info55 rfl (by decide) (by omega) u9 x9_3 (⟨(wrap64 (30001 * x10_3)), x444001_4, 1⟩ : S55) [.int .i64 (wrap64 (30001 * x10_3)), .slice Ao65 x444001_4.length co65, .int .i64 1] (fun k_ => k_ ≠ gb443) (fun k_ => some k_ = (.slice Ao65 x444001_4.length co65 : Value).ownBlock) rfl rfl ?aP (fun k_ hk_ => ((Kd.R_mono (ok' := fun k_ => ((fun k_ => k_ ≠ gb443)) k_ ∧ some k_ ≠ (u9 : Value).ownBlock) (Kd.R_types (Kd.R_apart' (HO_444001.out) (Kd.S_typed HO_9.out) (by decide)) BK443.out (by decide)) (fun k_ hk => ⟨hk.2, hk.1.2⟩))).1 k_ hk_.symm) ?aF ?aO ?aB ?aS ?aL ?_; (case aP => exact k55_mkM _ _ _ (⟨(wrap64 (30001 * x10_3)), x444001_4, 1⟩ : S55) (Kd.R_mono (Kd.R_tight rfl (Kd.R_mono (ok' := fun k_ => ((fun k_ => k_ ≠ gb443)) k_ ∧ some k_ ≠ (u9 : Value).ownBlock) (Kd.R_types (Kd.R_apart' (HO_444001.out) (Kd.S_typed HO_9.out) (by decide)) BK443.out (by decide)) (fun k_ hk => ⟨hk.2, hk.1.2⟩))) (fun _ h_ => h_))); (case aB => exact belowA); (case aF => exact (fun k_ hk => Kd.freshB (g := gb443) (o := .cells #[.int .i64 (wrap64 (30001 * x10_3)), .slice Ao65 x444001_4.length co65, .int .i64 1] 55 (0, 0)) (blk_move BK443.out) k_ hk)); (case aO => exact (by (with_reducible repeat (first | apply Kd.S_alloc | apply Kd.S_drewN | apply Kd.S_drew)); exact Kd.S_mono HO_9.out (fun k_ hk => ⟨hk.2, fun e_ => hk.1 e_⟩))); (case aS => exact below_sizeA); (case aL => have := LMc60.out; omega); intro v451 w64 ho hb hg hat; rw [← Ny450.out] at ho; have n0_ := Aside0.mk (blk_grown (g := gb436) (o := .cells #[.slice A0_0 l0_0.length c0_0, .slice (some ad438) l0_1.length c0_1] 25 (0, 0)) (blk_move BK436.out) hg (Kd.S_ne HO_9.out BK436.out (by decide))); have n1_ := Aside0.mk (blk_grown (g := gb439) (o := .cells (A44 (rd_T44 l0_1 a1) (some ad441) c438_1 A438_4 c438_4 A438_8 c438_8 A438_9 c438_9 A438_13 c438_13 A438_14 c438_14 A438_15 c438_15) 44 (0, 0)) (blk_move BK439.out) hg (Kd.S_ne HO_9.out BK439.out (by decide))); have n2_ := Aside0.mk (blk_grown (g := gb443) (o := .cells #[.int .i64 (wrap64 (30001 * x10_3)), .slice Ao65 x444001_4.length co65, .int .i64 1] 55 (0, 0)) (blk_move BK443.out) hg (Kd.S_away HO_9.out (fun _ hk => hk.2))); have n3_ := Aside0.mk (hb); have n4_ := Aside0.mk (ho); clear BK436; clear BK439; clear BK443; clear HB; clear HO_9; clear HO_444001; have BK436 := n0_; have BK439 := n1_; have BK443 := n2_; have HB := n3_; have HO452 := n4_; clear n0_ n1_ n2_ n3_ n4_; clear ho hb hg hat))
             go_roundg k4
             case measure => have := HJ3.out; have := HJ26.out; have := HK3.out; have := HK4.out; omega
             case rel => exact ⟨(y450), (wrap64 (x10_3 + 1)), (by first | rfl | (simp; done) | (simp [*]; done)), H', ⟨by have := HJ3.out; have := HJ26.out; have := HK3.out; have := HK4.out; omega⟩, ⟨by (with_reducible repeat (first | apply Kd.S_alloc | apply Kd.S_drewN | apply Kd.S_drew)); exact Kd.S_mono HO452.out (fun _ hk => trivial)⟩, ⟨blk_move BK436.out⟩, ⟨blk_move BK439.out⟩, ⟨by repeat (first | (with_reducible first | exact HB.out | apply below_alloc | apply pw_below_drewN | apply below_drew1 | refine below_set ?_ GE436.out | refine below_set ?_ GE439.out | refine below_set ?_ GE443.out) | exact HB.out)⟩⟩
         ·
          rw [if_neg c46] at H
          have c46b0 : decide (x10_3 < a2) = false := decide_eq_false c46
          clear c46
          obtain rfl := Option.some.inj H
          go_wp2
          go_ret
          exact ⟨_, by first | rfl | (simp [errW_none, errW_some] <;> rfl) | (simp [*, errW_none, errW_some] <;> rfl), by (with_reducible repeat (first | apply Kd.S_alloc | apply Kd.S_drewN | apply Kd.S_drew)); exact HO_9.out, belowA⟩

end Go.Proofs.Yteoljddobfnfiaa.PB
end
section
namespace Go.Proofs.Yteoljddobfnfiaa.PB
open Go.RowKit Go.Proofs.YteoljddobfnfiaaW.PrintWords Go.Proofs.YteoljddobfnfiaaW.PrintLast Go.Proofs.YteoljddobfnfiaaW.PrintMore
attribute [local go_sem] max2_int min2_int max_two min_two max_three min_three max_four min_four
attribute [local go_sem ↓ high] Go.Proofs.Yteoljddobfnfiaa.My.ld44_eq Go.Proofs.Yteoljddobfnfiaa.My.st44_eq Go.Proofs.Yteoljddobfnfiaa.My.ld27_eq Go.Proofs.Yteoljddobfnfiaa.My.st27_eq Go.Proofs.Yteoljddobfnfiaa.My.ld37_eq Go.Proofs.Yteoljddobfnfiaa.My.st37_eq Go.Proofs.Yteoljddobfnfiaa.My.ld65_eq Go.Proofs.Yteoljddobfnfiaa.My.st65_eq
attribute [local go_sem high] Go.Proofs.Yteoljddobfnfiaa.My.ld44_run Go.Proofs.Yteoljddobfnfiaa.My.st44_run Go.Proofs.Yteoljddobfnfiaa.My.ld27_run Go.Proofs.Yteoljddobfnfiaa.My.st27_run Go.Proofs.Yteoljddobfnfiaa.My.ld37_run Go.Proofs.Yteoljddobfnfiaa.My.st37_run Go.Proofs.Yteoljddobfnfiaa.My.ld65_run Go.Proofs.Yteoljddobfnfiaa.My.st65_run
open Go.Proofs.Yteoljddobfnfiaa.My
attribute [local go_sem] cell_map run_store_fnV one_int one_bool one_string one_slice one_fnV
set_option linter.unusedVariables false
set_option linter.unusedSimpArgs false

theorem eqA70 (d : Nat) (w : World) (x0 y0 : Int) (x1 y1 : Int) (x2 y2 : ByteArray) :
    (Op.equalIn (d + 2) 70 (.agg #[.int .i64 x0, .int .i64 x1, .string x2]) (.agg #[.int .i64 y0, .int .i64 y1, .string y2])).run Try.prog w = .ok (x0 == y0 && (x1 == y1 && (x2.toList == y2.toList))) w := by
  refine eqA_of Try.underlying70 (by kernel_rfl) ?_
  refine eqf_cons (by rfl) (by go_simp; rfl) (by go_simp; rfl) (by go_simp) ?_
  refine eqf_cons (by rfl) (by go_simp; rfl) (by go_simp; rfl) (by go_simp) ?_
  exact eqf_last (by rfl) (by go_simp; rfl) (by go_simp; rfl) (by go_simp)
end Go.Proofs.Yteoljddobfnfiaa.PB
end
section
namespace Go.Proofs.Yteoljddobfnfiaa.PB
open Go.RowKit Go.Proofs.YteoljddobfnfiaaW.PrintWords Go.Proofs.YteoljddobfnfiaaW.PrintLast Go.Proofs.YteoljddobfnfiaaW.PrintMore
attribute [local go_sem] max2_int min2_int max_two min_two max_three min_three max_four min_four
attribute [local go_sem ↓ high] Go.Proofs.Yteoljddobfnfiaa.My.ld44_eq Go.Proofs.Yteoljddobfnfiaa.My.st44_eq Go.Proofs.Yteoljddobfnfiaa.My.ld27_eq Go.Proofs.Yteoljddobfnfiaa.My.st27_eq Go.Proofs.Yteoljddobfnfiaa.My.ld37_eq Go.Proofs.Yteoljddobfnfiaa.My.st37_eq Go.Proofs.Yteoljddobfnfiaa.My.ld65_eq Go.Proofs.Yteoljddobfnfiaa.My.st65_eq
attribute [local go_sem high] Go.Proofs.Yteoljddobfnfiaa.My.ld44_run Go.Proofs.Yteoljddobfnfiaa.My.st44_run Go.Proofs.Yteoljddobfnfiaa.My.ld27_run Go.Proofs.Yteoljddobfnfiaa.My.st27_run Go.Proofs.Yteoljddobfnfiaa.My.ld37_run Go.Proofs.Yteoljddobfnfiaa.My.st37_run Go.Proofs.Yteoljddobfnfiaa.My.ld65_run Go.Proofs.Yteoljddobfnfiaa.My.st65_run
open Go.Proofs.Yteoljddobfnfiaa.My
attribute [local go_sem] cell_map run_store_fnV one_int one_bool one_string one_slice one_fnV
set_option linter.unusedVariables false
set_option linter.unusedSimpArgs false

attribute [local go_sem high] eqA70
mutual
def errataref20_SameRows.l0 : Nat → List (S55) → List (S55) → Int → Option (Bool)
  | 0, _, _, _ => none
  | k + 1, x0, x1, x5 => if x5 < (x0.length : Int) then (if 0 ≤ x5 then (if x5 < (x1.length : Int) then (if ((rd_T55 x0 x5).f0) = ((rd_T55 x1 x5).f0) then (if ((rd_T55 x0 x5).f2) = ((rd_T55 x1 x5).f2) then (errataref20_SameRows.j1 k x0 x1 x5 ((((rd_T55 x0 x5).f1).length : Int) != (((rd_T55 x1 x5).f1).length : Int))) else (errataref20_SameRows.j1 k x0 x1 x5 true)) else (errataref20_SameRows.j1 k x0 x1 x5 true)) else (none)) else (none)) else (some true)
def errataref20_SameRows.j1 : Nat → List (S55) → List (S55) → Int → Bool → Option (Bool)
  | 0, _, _, _, _ => none
  | k + 1, x0, x1, x5, x56 => if x56 = true then (some false) else (errataref20_SameRows.l1 k x0 x1 x5 0)
def errataref20_SameRows.l1 : Nat → List (S55) → List (S55) → Int → Int → Option (Bool)
  | 0, _, _, _, _ => none
  | k + 1, x0, x1, x5, x6 => if 0 ≤ x5 then (if x5 < (x0.length : Int) then (if x6 < (((rd_T55 x0 x5).f1).length : Int) then (if 0 ≤ x6 then (if x5 < (x1.length : Int) then (if x6 < (((rd_T55 x1 x5).f1).length : Int) then (if (!(((rd_T70 ((rd_T55 x0 x5).f1) x6).f0) == ((rd_T70 ((rd_T55 x1 x5).f1) x6).f0)) || (!(((rd_T70 ((rd_T55 x0 x5).f1) x6).f1) == ((rd_T70 ((rd_T55 x1 x5).f1) x6).f1)) || (!((((rd_T70 ((rd_T55 x0 x5).f1) x6).f2).toList) == (((rd_T70 ((rd_T55 x1 x5).f1) x6).f2).toList))))) = true then (some false) else (errataref20_SameRows.l1 k x0 x1 x5 (wrap64 (x6 + 1)))) else (none)) else (none)) else (none)) else (errataref20_SameRows.l0 k x0 x1 (wrap64 (x5 + 1)))) else (none)) else (none)
end
def errataref20_SameRows.f (k : Nat) (l0 : List (S55)) (l1 : List (S55)) : Option (Bool) := if (l0.length : Int) = (l1.length : Int) then (errataref20_SameRows.l0 k l0 l1 0) else (some false)
set_option maxHeartbeats 8000000 in
set_option maxRecDepth 100000 in
theorem errataref20_SameRows.calls (k : Nat) (A0 : Option Addr) (c0 : Nat) (l0 : List (S55)) (A1 : Option Addr) (c1 : Nat) (l1 : List (S55)) (r : Bool) (w : World) (hr0 : Kd.C k55 w A0 l0.length l0) (hc0 : l0.length ≤ c0) (hr1 : Kd.C k55 w A1 l1.length l1) (hc1 : l1.length ≤ c1) (h : errataref20_SameRows.f k l0 l1 = some r) :
    Calls Try.prog 24 #[.slice A0 l0.length c0, .slice A1 l1.length c1] w fun e w' => e = .returned (.bool r) ∧ Drawn0 w w' := by
 have hu70 := Try.underlying70
 have HR0 := Aside0.mk hr0
 have HC0 := Aside0.mk hc0
 clear hr0 hc0
 have HR1 := Aside0.mk hr1
 have HC1 := Aside0.mk hc1
 clear hr1 hc1
 have H : (if (l0.length : Int) = (l1.length : Int) then (errataref20_SameRows.l0 k l0 l1 0) else (some false)) = some r := h
 clear h
 by_cases c3 : (l0.length : Int) = (l1.length : Int)
 ·
  rw [if_pos c3] at H
  have c3b0 : ((l0.length : Int) == (l1.length : Int)) = true := beq_iff_eq.mpr c3
  have c3b1 : ((l0.length : Int) != (l1.length : Int)) = false := bne_eq_false_iff_eq.mpr c3
  have c3b2 : (l0.length == l1.length) = true := by first | simpa using c3 | (simp at c3 ⊢; omega)
  clear c3
  have H' := Aside0.mk H
  clear H
  go_enter Try.func24, Try.ntmps24
  go_wp2
  repeat (go_quiet (fail); try go_wp2)
  go_loopg [5] k (fun kq v5 w' => ∃ (x5_1 : Int), v5 = .int .i64 x5_1 ∧ Aside0 (errataref20_SameRows.l0 kq l0 l1 x5_1 = some r) ∧ Aside0 (kq ≤ k) ∧ Drawn0 w w')
  case atStart => exact ⟨(0), (by first | rfl | (simp; done) | (simp [*]; done)), H', ⟨Nat.le_refl _⟩, by repeat (first | exact Drawn0.refl _ | apply Drawn0.step)⟩
  case round =>
   clear H'
   try clear c1
   try clear c2
   try clear p2
   try clear c3
   try clear c3b0
   try clear c3b1
   try clear c3b2
   obtain ⟨x5_1, rfl, HA, HK1, ⟨m1, rfl⟩⟩ := hrel
   cases gk with
   | zero => exact absurd HA.out (by simp [errataref20_SameRows.l0])
   | succ k1 =>
    have H := HA.out
    clear HA
    simp only [errataref20_SameRows.l0] at H
    by_cases c4 : x5_1 < (l0.length : Int)
    ·
     rw [if_pos c4] at H
     have c4b0 : decide (x5_1 < (l0.length : Int)) = true := decide_eq_true c4
     clear c4
     have HC5 := Aside0.mk H
     clear H
     go_upto_region 6 with (fail)
     repeat (go_quiet (fail); go_upto_region 6 with (fail))
     go_cut [56] (fun v56 wc => ∃ (kq : Nat) (x56_4 : Bool), v56 = .bool x56_4 ∧ Aside0 (errataref20_SameRows.j1 kq l0 l1 x5_1 x56_4 = some r) ∧ Aside0 (kq ≤ k1) ∧ Drawn0 w wc)
     case first =>
      have H := HC5.out
      clear HC5
      by_cases c6 : 0 ≤ x5_1
      case neg => rw [if_neg c6] at H; exact absurd H (by simp)
      rw [if_pos c6] at H
      have c6b0 : decide (0 ≤ x5_1) = true := decide_eq_true c6
      clear c6
      (first | rw [c6b0] | (simp only [i64_w, i32_w]; rw [c6b0]) | skip)
      by_cases c7 : x5_1 < (l1.length : Int)
      case neg => rw [if_neg c7] at H; exact absurd H (by simp)
      rw [if_pos c7] at H
      have c7b0 : decide (x5_1 < (l1.length : Int)) = true := decide_eq_true c7
      clear c7
      by_cases c8 : ((rd_T55 l0 x5_1).f0) = ((rd_T55 l1 x5_1).f0)
      ·
       rw [if_pos c8] at H
       have c8b0 : (((rd_T55 l0 x5_1).f0) == ((rd_T55 l1 x5_1).f0)) = true := beq_iff_eq.mpr c8
       have c8b1 : (((rd_T55 l0 x5_1).f0) != ((rd_T55 l1 x5_1).f0)) = false := bne_eq_false_iff_eq.mpr c8
       clear c8
       by_cases c9 : ((rd_T55 l0 x5_1).f2) = ((rd_T55 l1 x5_1).f2)
       ·
        rw [if_pos c9] at H
        have c9b0 : (((rd_T55 l0 x5_1).f2) == ((rd_T55 l1 x5_1).f2)) = true := beq_iff_eq.mpr c9
        have c9b1 : (((rd_T55 l0 x5_1).f2) != ((rd_T55 l1 x5_1).f2)) = false := bne_eq_false_iff_eq.mpr c9
        clear c9
        have H' := Aside0.mk H
        clear H
        have p425 : 0 ≤ (x5_1 : Int) := odA
        have q425 : x5_1 < (l0.length : Int) := odA
        obtain ⟨ad425, A425_1, c425_1, e425, hx425_0, hx425_1, hx425_2, hl425_1, hi425_1⟩ := at_T55 HR0.out x5_1 p425 q425
        cases e425
        have HR425_1 := Aside0.mk hi425_1
        have HC425_1 := Aside0.mk hl425_1
        clear hi425_1 hl425_1
        replace p425 := eq_true p425
        replace q425 := eq_true q425
        have p426 : 0 ≤ (x5_1 : Int) := odA
        have q426 : x5_1 < (l1.length : Int) := odA
        obtain ⟨ad426, A426_1, c426_1, e426, hx426_0, hx426_1, hx426_2, hl426_1, hi426_1⟩ := at_T55 HR1.out x5_1 p426 q426
        cases e426
        have HR426_1 := Aside0.mk hi426_1
        have HC426_1 := Aside0.mk hl426_1
        clear hi426_1 hl426_1
        replace p426 := eq_true p426
        replace q426 := eq_true q426
        have p427 : 0 ≤ (x5_1 : Int) := odA
        have q427 : x5_1 < (l0.length : Int) := odA
        obtain ⟨ad427, A427_1, c427_1, e427, hx427_0, hx427_1, hx427_2, hl427_1, hi427_1⟩ := at_T55 HR0.out x5_1 p427 q427
        obtain rfl : ad425 = ad427 := (by injection e427)
        have HR427_1 := Aside0.mk hi427_1
        have HC427_1 := Aside0.mk hl427_1
        clear hi427_1 hl427_1
        replace p427 := eq_true p427
        replace q427 := eq_true q427
        have ea_ := Option.some.inj (hx425_1.symm.trans hx427_1)
        injection ea_ with ea_ en_ ec_
        subst ea_
        subst ec_
        clear en_
        have p428 : 0 ≤ (x5_1 : Int) := odA
        have q428 : x5_1 < (l1.length : Int) := odA
        obtain ⟨ad428, A428_1, c428_1, e428, hx428_0, hx428_1, hx428_2, hl428_1, hi428_1⟩ := at_T55 HR1.out x5_1 p428 q428
        obtain rfl : ad426 = ad428 := (by injection e428)
        have HR428_1 := Aside0.mk hi428_1
        have HC428_1 := Aside0.mk hl428_1
        clear hi428_1 hl428_1
        replace p428 := eq_true p428
        replace q428 := eq_true q428
        have ea_ := Option.some.inj (hx426_1.symm.trans hx428_1)
        injection ea_ with ea_ en_ ec_
        subst ea_
        subst ec_
        clear en_
        have p429 : 0 ≤ (x5_1 : Int) := odA
        have q429 : x5_1 < (l0.length : Int) := odA
        obtain ⟨ad429, A429_1, c429_1, e429, hx429_0, hx429_1, hx429_2, hl429_1, hi429_1⟩ := at_T55 HR0.out x5_1 p429 q429
        obtain rfl : ad425 = ad429 := (by injection e429)
        have HR429_1 := Aside0.mk hi429_1
        have HC429_1 := Aside0.mk hl429_1
        clear hi429_1 hl429_1
        replace p429 := eq_true p429
        replace q429 := eq_true q429
        have ea_ := Option.some.inj (hx425_1.symm.trans hx429_1)
        injection ea_ with ea_ en_ ec_
        subst ea_
        subst ec_
        clear en_
        have p430 : 0 ≤ (x5_1 : Int) := odA
        have q430 : x5_1 < (l1.length : Int) := odA
        obtain ⟨ad430, A430_1, c430_1, e430, hx430_0, hx430_1, hx430_2, hl430_1, hi430_1⟩ := at_T55 HR1.out x5_1 p430 q430
        obtain rfl : ad426 = ad430 := (by injection e430)
        have HR430_1 := Aside0.mk hi430_1
        have HC430_1 := Aside0.mk hl430_1
        clear hi430_1 hl430_1
        replace p430 := eq_true p430
        replace q430 := eq_true q430
        have ea_ := Option.some.inj (hx426_1.symm.trans hx430_1)
        injection ea_ with ea_ en_ ec_
        subst ea_
        subst ec_
        clear en_
        go_wp2
        repeat (go_quiet (fail); try go_wp2)
        go_meet
        case rel => exact ⟨_, (((((rd_T55 l0 x5_1).f1).length : Int) != (((rd_T55 l1 x5_1).f1).length : Int))), (by first | rfl | (simp; done) | (simp [*]; done)), H', ⟨by have := HK1.out; first | omega | exact Nat.le_refl _⟩, by repeat (first | exact Drawn0.refl _ | apply Drawn0.step)⟩
       ·
        rw [if_neg c9] at H
        have c9b0 : (((rd_T55 l0 x5_1).f2) == ((rd_T55 l1 x5_1).f2)) = false := beq_eq_false_iff_ne.mpr c9
        have c9b1 : (((rd_T55 l0 x5_1).f2) != ((rd_T55 l1 x5_1).f2)) = true := bne_iff_ne.mpr c9
        have H' := Aside0.mk H
        clear H
        have p425 : 0 ≤ (x5_1 : Int) := odA
        have q425 : x5_1 < (l0.length : Int) := odA
        obtain ⟨ad425, A425_1, c425_1, e425, hx425_0, hx425_1, hx425_2, hl425_1, hi425_1⟩ := at_T55 HR0.out x5_1 p425 q425
        cases e425
        have HR425_1 := Aside0.mk hi425_1
        have HC425_1 := Aside0.mk hl425_1
        clear hi425_1 hl425_1
        replace p425 := eq_true p425
        replace q425 := eq_true q425
        have p426 : 0 ≤ (x5_1 : Int) := odA
        have q426 : x5_1 < (l1.length : Int) := odA
        obtain ⟨ad426, A426_1, c426_1, e426, hx426_0, hx426_1, hx426_2, hl426_1, hi426_1⟩ := at_T55 HR1.out x5_1 p426 q426
        cases e426
        have HR426_1 := Aside0.mk hi426_1
        have HC426_1 := Aside0.mk hl426_1
        clear hi426_1 hl426_1
        replace p426 := eq_true p426
        replace q426 := eq_true q426
        have p427 : 0 ≤ (x5_1 : Int) := odA
        have q427 : x5_1 < (l0.length : Int) := odA
        obtain ⟨ad427, A427_1, c427_1, e427, hx427_0, hx427_1, hx427_2, hl427_1, hi427_1⟩ := at_T55 HR0.out x5_1 p427 q427
        obtain rfl : ad425 = ad427 := (by injection e427)
        have HR427_1 := Aside0.mk hi427_1
        have HC427_1 := Aside0.mk hl427_1
        clear hi427_1 hl427_1
        replace p427 := eq_true p427
        replace q427 := eq_true q427
        have ea_ := Option.some.inj (hx425_1.symm.trans hx427_1)
        injection ea_ with ea_ en_ ec_
        subst ea_
        subst ec_
        clear en_
        have p428 : 0 ≤ (x5_1 : Int) := odA
        have q428 : x5_1 < (l1.length : Int) := odA
        obtain ⟨ad428, A428_1, c428_1, e428, hx428_0, hx428_1, hx428_2, hl428_1, hi428_1⟩ := at_T55 HR1.out x5_1 p428 q428
        obtain rfl : ad426 = ad428 := (by injection e428)
        have HR428_1 := Aside0.mk hi428_1
        have HC428_1 := Aside0.mk hl428_1
        clear hi428_1 hl428_1
        replace p428 := eq_true p428
        replace q428 := eq_true q428
        have ea_ := Option.some.inj (hx426_1.symm.trans hx428_1)
        injection ea_ with ea_ en_ ec_
        subst ea_
        subst ec_
        clear en_
        go_wp2
        repeat (go_quiet (fail); try go_wp2)
        go_meet
        case rel => exact ⟨_, (true), (by first | rfl | (simp; done) | (simp [*]; done)), H', ⟨by have := HK1.out; first | omega | exact Nat.le_refl _⟩, by repeat (first | exact Drawn0.refl _ | apply Drawn0.step)⟩
      ·
       rw [if_neg c8] at H
       have c8b0 : (((rd_T55 l0 x5_1).f0) == ((rd_T55 l1 x5_1).f0)) = false := beq_eq_false_iff_ne.mpr c8
       have c8b1 : (((rd_T55 l0 x5_1).f0) != ((rd_T55 l1 x5_1).f0)) = true := bne_iff_ne.mpr c8
       have H' := Aside0.mk H
       clear H
       have p425 : 0 ≤ (x5_1 : Int) := odA
       have q425 : x5_1 < (l0.length : Int) := odA
       obtain ⟨ad425, A425_1, c425_1, e425, hx425_0, hx425_1, hx425_2, hl425_1, hi425_1⟩ := at_T55 HR0.out x5_1 p425 q425
       cases e425
       have HR425_1 := Aside0.mk hi425_1
       have HC425_1 := Aside0.mk hl425_1
       clear hi425_1 hl425_1
       replace p425 := eq_true p425
       replace q425 := eq_true q425
       have p426 : 0 ≤ (x5_1 : Int) := odA
       have q426 : x5_1 < (l1.length : Int) := odA
       obtain ⟨ad426, A426_1, c426_1, e426, hx426_0, hx426_1, hx426_2, hl426_1, hi426_1⟩ := at_T55 HR1.out x5_1 p426 q426
       cases e426
       have HR426_1 := Aside0.mk hi426_1
       have HC426_1 := Aside0.mk hl426_1
       clear hi426_1 hl426_1
       replace p426 := eq_true p426
       replace q426 := eq_true q426
       go_wp2
       repeat (go_quiet (fail); try go_wp2)
       go_meet
       case rel => exact ⟨_, (true), (by first | rfl | (simp; done) | (simp [*]; done)), H', ⟨by have := HK1.out; first | omega | exact Nat.le_refl _⟩, by repeat (first | exact Drawn0.refl _ | apply Drawn0.step)⟩
     case rest =>
      clear HC5
      try clear c1
      try clear c2
      try clear p2
      try clear c3
      try clear c3b0
      try clear c3b1
      try clear c3b2
      try clear c4
      try clear c4b0
      try clear p4
      try clear q4
      try clear hx4
      try clear c6
      try clear c6b0
      try clear c7
      try clear c7b0
      try clear c8
      try clear c8b0
      try clear c8b1
      try clear c9
      try clear c9b0
      try clear c9b1
      try clear hx425_0
      try clear hx425_1
      try clear hx425_2
      try clear hx426_0
      try clear hx426_1
      try clear hx426_2
      try clear hx427_0
      try clear hx427_1
      try clear hx427_2
      try clear hx428_0
      try clear hx428_1
      try clear hx428_2
      try clear hx429_0
      try clear hx429_1
      try clear hx429_2
      try clear hx430_0
      try clear hx430_1
      try clear hx430_2
      try clear p2
      try clear p425
      try clear p426
      try clear p427
      try clear p428
      try clear p429
      try clear p430
      try clear q425
      try clear q426
      try clear q427
      try clear q428
      try clear q429
      try clear q430
      obtain ⟨kq, x56_4, rfl, HA, HJ4, ⟨mc4, rfl⟩⟩ := hcut
      cases kq with
      | zero => exact absurd HA.out (by simp [errataref20_SameRows.j1])
      | succ kj4 =>
       have H := HA.out
       clear HA
       simp only [errataref20_SameRows.j1] at H
       by_cases c10 : x56_4 = true
       ·
        subst c10
        rw [if_pos rfl] at H
        obtain rfl := Option.some.inj H
        go_wp2
        repeat (go_quiet (fail); try go_wp2)
        go_ret
        exact ⟨by first | rfl | (simp; done) | (simp [*]; done), by repeat (first | exact Drawn0.refl _ | apply Drawn0.step)⟩
       ·
        replace c10 := Bool.eq_false_iff.mpr c10
        subst c10
        rw [if_neg (show ¬ (false = true) by decide)] at H
        have H' := Aside0.mk H
        clear H
        go_wp2
        repeat (go_quiet (fail); try go_wp2)
        go_loopg [6] kj4 (fun kq v6 w' => ∃ (x6_3 : Int), v6 = .int .i64 x6_3 ∧ Aside0 (errataref20_SameRows.l1 kq l0 l1 x5_1 x6_3 = some r) ∧ Aside0 (kq ≤ kj4) ∧ Drawn0 w w')
        case atStart => exact ⟨(0), (by first | rfl | (simp; done) | (simp [*]; done)), H', ⟨Nat.le_refl _⟩, by repeat (first | exact Drawn0.refl _ | apply Drawn0.step)⟩
        case round =>
         clear H'
         try clear c1
         try clear c2
         try clear p2
         try clear c3
         try clear c3b0
         try clear c3b1
         try clear c3b2
         try clear c4
         try clear c4b0
         try clear p4
         try clear q4
         try clear hx4
         try clear c6
         try clear c6b0
         try clear c7
         try clear c7b0
         try clear c8
         try clear c8b0
         try clear c8b1
         try clear c9
         try clear c9b0
         try clear c9b1
         try clear c10
         try clear hx425_0
         try clear hx425_1
         try clear hx425_2
         try clear hx426_0
         try clear hx426_1
         try clear hx426_2
         try clear hx427_0
         try clear hx427_1
         try clear hx427_2
         try clear hx428_0
         try clear hx428_1
         try clear hx428_2
         try clear hx429_0
         try clear hx429_1
         try clear hx429_2
         try clear hx430_0
         try clear hx430_1
         try clear hx430_2
         try clear p2
         try clear p4
         try clear p425
         try clear p426
         try clear p427
         try clear p428
         try clear p429
         try clear p430
         try clear q4
         try clear q425
         try clear q426
         try clear q427
         try clear q428
         try clear q429
         try clear q430
         obtain ⟨x6_3, rfl, HA, HK3, ⟨m3, rfl⟩⟩ := hrel
         cases gk with
         | zero => exact absurd HA.out (by simp [errataref20_SameRows.l1])
         | succ k3 =>
          have H := HA.out
          clear HA
          simp only [errataref20_SameRows.l1] at H
          by_cases c11 : 0 ≤ x5_1
          case neg => rw [if_neg c11] at H; exact absurd H (by simp)
          rw [if_pos c11] at H
          have c11b0 : decide (0 ≤ x5_1) = true := decide_eq_true c11
          clear c11
          by_cases c12 : x5_1 < (l0.length : Int)
          case neg => rw [if_neg c12] at H; exact absurd H (by simp)
          rw [if_pos c12] at H
          have c12b0 : decide (x5_1 < (l0.length : Int)) = true := decide_eq_true c12
          clear c12
          by_cases c13 : x6_3 < (((rd_T55 l0 x5_1).f1).length : Int)
          ·
           rw [if_pos c13] at H
           have c13b0 : decide (x6_3 < (((rd_T55 l0 x5_1).f1).length : Int)) = true := decide_eq_true c13
           clear c13
           by_cases c14 : 0 ≤ x6_3
           case neg => rw [if_neg c14] at H; exact absurd H (by simp)
           rw [if_pos c14] at H
           have c14b0 : decide (0 ≤ x6_3) = true := decide_eq_true c14
           clear c14
           by_cases c15 : x5_1 < (l1.length : Int)
           case neg => rw [if_neg c15] at H; exact absurd H (by simp)
           rw [if_pos c15] at H
           have c15b0 : decide (x5_1 < (l1.length : Int)) = true := decide_eq_true c15
           clear c15
           by_cases c16 : x6_3 < (((rd_T55 l1 x5_1).f1).length : Int)
           case neg => rw [if_neg c16] at H; exact absurd H (by simp)
           rw [if_pos c16] at H
           have c16b0 : decide (x6_3 < (((rd_T55 l1 x5_1).f1).length : Int)) = true := decide_eq_true c16
           clear c16
           by_cases c17 : (!(((rd_T70 ((rd_T55 l0 x5_1).f1) x6_3).f0) == ((rd_T70 ((rd_T55 l1 x5_1).f1) x6_3).f0)) || (!(((rd_T70 ((rd_T55 l0 x5_1).f1) x6_3).f1) == ((rd_T70 ((rd_T55 l1 x5_1).f1) x6_3).f1)) || (!((((rd_T70 ((rd_T55 l0 x5_1).f1) x6_3).f2).toList) == (((rd_T70 ((rd_T55 l1 x5_1).f1) x6_3).f2).toList))))) = true
           ·
            rw [if_pos c17] at H
            have c17b0 : (!(((rd_T70 ((rd_T55 l0 x5_1).f1) x6_3).f0) == ((rd_T70 ((rd_T55 l1 x5_1).f1) x6_3).f0)) || (!(((rd_T70 ((rd_T55 l0 x5_1).f1) x6_3).f1) == ((rd_T70 ((rd_T55 l1 x5_1).f1) x6_3).f1)) || (!((((rd_T70 ((rd_T55 l0 x5_1).f1) x6_3).f2).toList) == (((rd_T70 ((rd_T55 l1 x5_1).f1) x6_3).f2).toList))))) = true := c17
            clear c17
            obtain rfl := Option.some.inj H
            have p431 : 0 ≤ (x5_1 : Int) := odA
            have q431 : x5_1 < (l0.length : Int) := odA
            obtain ⟨ad431, A431_1, c431_1, e431, hx431_0, hx431_1, hx431_2, hl431_1, hi431_1⟩ := at_T55 HR0.out x5_1 p431 q431
            cases e431
            have HR431_1 := Aside0.mk hi431_1
            have HC431_1 := Aside0.mk hl431_1
            clear hi431_1 hl431_1
            replace p431 := eq_true p431
            replace q431 := eq_true q431
            have p432 : 0 ≤ (x5_1 : Int) := odA
            have q432 : x5_1 < (l0.length : Int) := odA
            obtain ⟨ad432, A432_1, c432_1, e432, hx432_0, hx432_1, hx432_2, hl432_1, hi432_1⟩ := at_T55 HR0.out x5_1 p432 q432
            obtain rfl : ad431 = ad432 := (by injection e432)
            have HR432_1 := Aside0.mk hi432_1
            have HC432_1 := Aside0.mk hl432_1
            clear hi432_1 hl432_1
            replace p432 := eq_true p432
            replace q432 := eq_true q432
            have ea_ := Option.some.inj (hx431_1.symm.trans hx432_1)
            injection ea_ with ea_ en_ ec_
            subst ea_
            subst ec_
            clear en_
            have p433 : 0 ≤ (x6_3 : Int) := odA
            have q433 : x6_3 < (((rd_T55 l0 x5_1).f1).length : Int) := odA
            obtain ⟨ad433, e433, hx433_0, hx433_1, hx433_2⟩ := at_T70 HR432_1.out x6_3 p433 q433
            cases e433
            replace p433 := eq_true p433
            replace q433 := eq_true q433
            have p434 : 0 ≤ (x5_1 : Int) := odA
            have q434 : x5_1 < (l1.length : Int) := odA
            obtain ⟨ad434, A434_1, c434_1, e434, hx434_0, hx434_1, hx434_2, hl434_1, hi434_1⟩ := at_T55 HR1.out x5_1 p434 q434
            cases e434
            have HR434_1 := Aside0.mk hi434_1
            have HC434_1 := Aside0.mk hl434_1
            clear hi434_1 hl434_1
            replace p434 := eq_true p434
            replace q434 := eq_true q434
            have p435 : 0 ≤ (x6_3 : Int) := odA
            have q435 : x6_3 < (((rd_T55 l1 x5_1).f1).length : Int) := odA
            obtain ⟨ad435, e435, hx435_0, hx435_1, hx435_2⟩ := at_T70 HR434_1.out x6_3 p435 q435
            cases e435
            replace p435 := eq_true p435
            replace q435 := eq_true q435
            go_wp2
            repeat (go_quiet (fail); try go_wp2)
            go_ret
            exact ⟨by first | rfl | (simp; done) | (simp [*]; done), by repeat (first | exact Drawn0.refl _ | apply Drawn0.step)⟩
           ·
            rw [if_neg c17] at H
            have c17b0 : (!(((rd_T70 ((rd_T55 l0 x5_1).f1) x6_3).f0) == ((rd_T70 ((rd_T55 l1 x5_1).f1) x6_3).f0)) || (!(((rd_T70 ((rd_T55 l0 x5_1).f1) x6_3).f1) == ((rd_T70 ((rd_T55 l1 x5_1).f1) x6_3).f1)) || (!((((rd_T70 ((rd_T55 l0 x5_1).f1) x6_3).f2).toList) == (((rd_T70 ((rd_T55 l1 x5_1).f1) x6_3).f2).toList))))) = false := by simpa using c17
            clear c17
            have H' := Aside0.mk H
            clear H
            have p431 : 0 ≤ (x5_1 : Int) := odA
            have q431 : x5_1 < (l0.length : Int) := odA
            obtain ⟨ad431, A431_1, c431_1, e431, hx431_0, hx431_1, hx431_2, hl431_1, hi431_1⟩ := at_T55 HR0.out x5_1 p431 q431
            cases e431
            have HR431_1 := Aside0.mk hi431_1
            have HC431_1 := Aside0.mk hl431_1
            clear hi431_1 hl431_1
            replace p431 := eq_true p431
            replace q431 := eq_true q431
            have p432 : 0 ≤ (x5_1 : Int) := odA
            have q432 : x5_1 < (l0.length : Int) := odA
            obtain ⟨ad432, A432_1, c432_1, e432, hx432_0, hx432_1, hx432_2, hl432_1, hi432_1⟩ := at_T55 HR0.out x5_1 p432 q432
            obtain rfl : ad431 = ad432 := (by injection e432)
            have HR432_1 := Aside0.mk hi432_1
            have HC432_1 := Aside0.mk hl432_1
            clear hi432_1 hl432_1
            replace p432 := eq_true p432
            replace q432 := eq_true q432
            have ea_ := Option.some.inj (hx431_1.symm.trans hx432_1)
            injection ea_ with ea_ en_ ec_
            subst ea_
            subst ec_
            clear en_
            have p433 : 0 ≤ (x6_3 : Int) := odA
            have q433 : x6_3 < (((rd_T55 l0 x5_1).f1).length : Int) := odA
            obtain ⟨ad433, e433, hx433_0, hx433_1, hx433_2⟩ := at_T70 HR432_1.out x6_3 p433 q433
            cases e433
            replace p433 := eq_true p433
            replace q433 := eq_true q433
            have p434 : 0 ≤ (x5_1 : Int) := odA
            have q434 : x5_1 < (l1.length : Int) := odA
            obtain ⟨ad434, A434_1, c434_1, e434, hx434_0, hx434_1, hx434_2, hl434_1, hi434_1⟩ := at_T55 HR1.out x5_1 p434 q434
            cases e434
            have HR434_1 := Aside0.mk hi434_1
            have HC434_1 := Aside0.mk hl434_1
            clear hi434_1 hl434_1
            replace p434 := eq_true p434
            replace q434 := eq_true q434
            have p435 : 0 ≤ (x6_3 : Int) := odA
            have q435 : x6_3 < (((rd_T55 l1 x5_1).f1).length : Int) := odA
            obtain ⟨ad435, e435, hx435_0, hx435_1, hx435_2⟩ := at_T70 HR434_1.out x6_3 p435 q435
            cases e435
            replace p435 := eq_true p435
            replace q435 := eq_true q435
            go_wp2
            repeat (go_quiet (fail); try go_wp2)
            go_roundg k3
            case measure => have := HK1.out; have := HJ4.out; have := HK3.out; omega
            case rel => exact ⟨(wrap64 (x6_3 + 1)), (by first | rfl | (simp; done) | (simp [*]; done)), H', ⟨by have := HK1.out; have := HJ4.out; have := HK3.out; omega⟩, by repeat (first | exact Drawn0.refl _ | apply Drawn0.step)⟩
          ·
           rw [if_neg c13] at H
           have c13b0 : decide (x6_3 < (((rd_T55 l0 x5_1).f1).length : Int)) = false := decide_eq_false c13
           clear c13
           have H' := Aside0.mk H
           clear H
           have p431 : 0 ≤ (x5_1 : Int) := odA
           have q431 : x5_1 < (l0.length : Int) := odA
           obtain ⟨ad431, A431_1, c431_1, e431, hx431_0, hx431_1, hx431_2, hl431_1, hi431_1⟩ := at_T55 HR0.out x5_1 p431 q431
           cases e431
           have HR431_1 := Aside0.mk hi431_1
           have HC431_1 := Aside0.mk hl431_1
           clear hi431_1 hl431_1
           replace p431 := eq_true p431
           replace q431 := eq_true q431
           go_wp2
           repeat (go_quiet (fail); try go_wp2)
           go_roundg k3
           case measure => have := HK1.out; have := HJ4.out; have := HK3.out; omega
           case rel => exact ⟨(wrap64 (x5_1 + 1)), (by first | rfl | (simp; done) | (simp [*]; done)), H', ⟨by have := HK1.out; have := HJ4.out; have := HK3.out; omega⟩, by repeat (first | exact Drawn0.refl _ | apply Drawn0.step)⟩
    ·
     rw [if_neg c4] at H
     have c4b0 : decide (x5_1 < (l0.length : Int)) = false := decide_eq_false c4
     clear c4
     obtain rfl := Option.some.inj H
     go_wp2
     repeat (go_quiet (fail); try go_wp2)
     go_ret
     exact ⟨by first | rfl | (simp; done) | (simp [*]; done), by repeat (first | exact Drawn0.refl _ | apply Drawn0.step)⟩
 ·
  rw [if_neg c3] at H
  have c3b0 : ((l0.length : Int) == (l1.length : Int)) = false := beq_eq_false_iff_ne.mpr c3
  have c3b1 : ((l0.length : Int) != (l1.length : Int)) = true := bne_iff_ne.mpr c3
  have c3b2 : (l0.length == l1.length) = false := by first | simpa using c3 | (simp at c3 ⊢; omega)
  obtain rfl := Option.some.inj H
  go_enter Try.func24, Try.ntmps24
  go_wp2
  repeat (go_quiet (fail); try go_wp2)
  go_ret
  exact ⟨by first | rfl | (simp; done) | (simp [*]; done), by repeat (first | exact Drawn0.refl _ | apply Drawn0.step)⟩

end Go.Proofs.Yteoljddobfnfiaa.PB
end
section
namespace Go.Proofs.Yteoljddobfnfiaa.Pure
open Go.RowKit Go.Proofs.YteoljddobfnfiaaW.PrintWords Go.Proofs.YteoljddobfnfiaaW.PrintLast Go.Proofs.YteoljddobfnfiaaW.PrintMore Go.Proofs.Yteoljddobfnfiaa.PB
set_option linter.unusedVariables false
set_option linter.unusedSimpArgs false

theorem rd50_at {l : List S50} {i : Nat} (h : i < l.length) : rd_T50 l (i : Int) = l[i] := by
  unfold rd_T50
  rw [Int.toNat_natCast, List.getD_eq_getElem?_getD, List.getElem?_eq_getElem h, Option.getD_some]
theorem rd55_at {l : List S55} {i : Nat} (h : i < l.length) : rd_T55 l (i : Int) = l[i] := by
  unfold rd_T55
  rw [Int.toNat_natCast, List.getD_eq_getElem?_getD, List.getElem?_eq_getElem h, Option.getD_some]
def typed (c : S50) : Bool := decide (0 ≤ c.f1 ∧ c.f1 ≤ 2)
def zeroOf (c : S50) : S70 := ⟨c.f1, 0, ⟨#[]⟩⟩
def rowsFrom (cols : List S50) : Nat → Nat → List S55
  | _, 0 => []
  | i, d + 1 => ⟨30001 * (i : Int), cols.map zeroOf, 1⟩ :: rowsFrom cols (i + 1) d
def rowsOf (cols : List S50) (n : Nat) : List S55 := if cols.all typed then rowsFrom cols 0 n else []
theorem Zero_eq (k : Int) : value_Zero.f k = some (k, 0, (⟨#[]⟩ : ByteArray)) := rfl

section
variable (l : List S44) (F : List S95) (x : S44) (cols : List S50) (hc : cols.length ≤ 20)
include hc
theorem wit_l1 (acc : List S55) (m i : Int) (t : Int) (R : List S55) (hR : Ev (fun k => if acc.length < 3518437208883 then (bounds_Witness.l0 k (acc ++ [(⟨t, cols.map zeroOf, 1⟩ : S55)]) m (wrap64 (i + 1)) F l x.f0 x.f1 x.f2 x.f3 x.f4 x.f5 x.f6 x.f7 x.f8 x.f9 x.f10 x.f11 x.f12 x.f13 x.f14 x.f15) else none) R) :
    ∀ d j : Nat, j + d = cols.length →
    Ev (fun k => bounds_Witness.l1 k acc m i cols (cols.length : Int) (j : Int) F l x.f0 x.f1 x.f2 x.f3 x.f4 x.f5 x.f6 x.f7 x.f8 x.f9 x.f10 x.f11 x.f12 x.f13 x.f14 x.f15 t ((cols.take j).map zeroOf) 1) (if (cols.drop j).all typed then R else [])
  | 0, j, hj => by
    rw [List.drop_of_length_le (by omega), List.all_nil, if_pos rfl, List.take_of_length_le (by omega)]
    refine Ev.step (fun k => ?_) hR
    simp only [bounds_Witness.l1]
    rw [if_neg (by omega)]
  | d + 1, j, hj => by
    have hjl : j < cols.length := by omega
    have e : cols.drop j = cols[j] :: cols.drop (j + 1) := List.drop_eq_getElem_cons hjl
    rw [e, List.all_cons]
    by_cases ht : 0 ≤ cols[j].f1 ∧ cols[j].f1 ≤ 2
    · have e1 : typed cols[j] = true := decide_eq_true ht
      rw [e1, Bool.true_and]
      have ih := wit_l1 acc m i t R hR d (j + 1) (by omega)
      refine Ev.step (fun k => ?_) ih
      simp only [bounds_Witness.l1]
      rw [if_pos (by omega), if_pos (by omega), if_pos (by omega), rd50_at hjl, within_eq, Option.bind_some, if_pos (decide_eq_true ht), Zero_eq, Option.bind_some, if_pos (by rw [List.length_map, List.length_take]; omega), wrap_id (n := (j : Int) + 1) (by omega) (by omega), cast_succ]
      rw [List.take_succ_eq_append_getElem hjl, List.map_append]
      rfl
    · have e1 : typed cols[j] = false := decide_eq_false ht
      rw [e1, Bool.false_and, if_neg (by decide)]
      refine Ev.step (f := fun _ => some []) (fun k => ?_) (Ev.now _)
      simp only [bounds_Witness.l1]
      rw [if_pos (by omega), if_pos (by omega), if_pos (by omega), rd50_at hjl, within_eq, Option.bind_some, if_neg (by rw [decide_eq_false ht]; decide)]
theorem wit_l0 (n : Nat) (hn : n ≤ 1000) (hx : x.f1 ≠ []) (h0 : 0 ≤ rd x.f1 0) (h1 : rd x.f1 0 < (l.length : Int)) (he : (rd_T44 l (rd x.f1 0)).f15 = cols) : ∀ d i : Nat, i + d = n → ∀ acc : List S55, acc.length = i →
    Ev (fun k => bounds_Witness.l0 k acc (n : Int) (i : Int) F l x.f0 x.f1 x.f2 x.f3 x.f4 x.f5 x.f6 x.f7 x.f8 x.f9 x.f10 x.f11 x.f12 x.f13 x.f14 x.f15) (if d = 0 then acc else if cols.all typed then acc ++ rowsFrom cols i d else [])
  | 0, i, hi, acc, ha => by
    rw [if_pos rfl]
    refine Ev.step (f := fun _ => some acc) (fun k => ?_) (Ev.now _)
    simp only [bounds_Witness.l0]
    rw [if_neg (by omega)]
  | d + 1, i, hi, acc, ha => by
    rw [if_neg (by omega)]
    have hlx : 0 < (x.f1.length : Int) := by
      have : x.f1.length ≠ 0 := fun h => hx (List.length_eq_zero_iff.1 h)
      omega
    have ih := wit_l0 n hn hx h0 h1 he d (i + 1) (by omega) (acc ++ [(⟨30001 * (i : Int), cols.map zeroOf, 1⟩ : S55)]) (by rw [List.length_append, List.length_singleton, ha])
    have hR : Ev (fun k => if acc.length < 3518437208883 then (bounds_Witness.l0 k (acc ++ [(⟨30001 * (i : Int), cols.map zeroOf, 1⟩ : S55)]) (n : Int) (wrap64 ((i : Int) + 1)) F l x.f0 x.f1 x.f2 x.f3 x.f4 x.f5 x.f6 x.f7 x.f8 x.f9 x.f10 x.f11 x.f12 x.f13 x.f14 x.f15) else none) (if d = 0 then acc ++ [(⟨30001 * (i : Int), cols.map zeroOf, 1⟩ : S55)] else if cols.all typed then acc ++ [(⟨30001 * (i : Int), cols.map zeroOf, 1⟩ : S55)] ++ rowsFrom cols (i + 1) d else []) := by
      refine Ev.congr (fun k => ?_) ih
      rw [if_pos (by omega), wrap_id (n := (i : Int) + 1) (by omega) (by omega), cast_succ]
    have hw := wit_l1 l F x cols hc acc (n : Int) (i : Int) (30001 * (i : Int)) _ hR cols.length 0 (by omega)
    rw [List.drop_zero] at hw
    have e2 : (if cols.all typed = true then (if d = 0 then acc ++ [(⟨30001 * (i : Int), cols.map zeroOf, 1⟩ : S55)] else if cols.all typed then acc ++ [(⟨30001 * (i : Int), cols.map zeroOf, 1⟩ : S55)] ++ rowsFrom cols (i + 1) d else []) else []) = (if cols.all typed then acc ++ rowsFrom cols i (d + 1) else []) := by
      by_cases ht : cols.all typed = true
      · rw [if_pos ht, if_pos ht, if_pos ht, rowsFrom]
        by_cases hd : d = 0
        · subst hd
          rw [if_pos rfl]
          rfl
        · rw [if_neg hd, List.append_assoc]
          rfl
      · rw [if_neg ht, if_neg ht]
    rw [e2] at hw
    refine Ev.step (fun k => ?_) hw
    simp only [bounds_Witness.l0]
    rw [if_pos (by omega), if_pos hlx, if_pos h0, if_pos h1, he, wrap_id (n := 30001 * (i : Int)) (by omega) (by omega)]
    rfl
theorem rwit_l1 (acc : List S55) (m i : Int) (t : Int) (R : List S55) (hR : Ev (fun k => if acc.length < 3518437208883 then (errataref20_Witness.l0 k m cols (acc ++ [(⟨t, cols.map zeroOf, 1⟩ : S55)]) (wrap64 (i + 1))) else none) R) :
    ∀ d j : Nat, j + d = cols.length →
    Ev (fun k => errataref20_Witness.l1 k m cols acc i (j : Int) t ((cols.take j).map zeroOf) 1) (if (cols.drop j).all typed then R else [])
  | 0, j, hj => by
    rw [List.drop_of_length_le (by omega), List.all_nil, if_pos rfl, List.take_of_length_le (by omega)]
    refine Ev.step (fun k => ?_) hR
    simp only [errataref20_Witness.l1]
    rw [if_neg (by omega)]
  | d + 1, j, hj => by
    have hjl : j < cols.length := by omega
    have e : cols.drop j = cols[j] :: cols.drop (j + 1) := List.drop_eq_getElem_cons hjl
    rw [e, List.all_cons]
    by_cases ht : 0 ≤ cols[j].f1 ∧ cols[j].f1 ≤ 2
    · have e1 : typed cols[j] = true := decide_eq_true ht
      rw [e1, Bool.true_and]
      have ih := rwit_l1 acc m i t R hR d (j + 1) (by omega)
      refine Ev.step (fun k => ?_) ih
      simp only [errataref20_Witness.l1]
      rw [if_pos (by omega), if_pos (by omega), rd50_at hjl, rwithin_eq, Option.bind_some, if_pos (decide_eq_true ht), if_pos (by rw [List.length_map, List.length_take]; omega), wrap_id (n := (j : Int) + 1) (by omega) (by omega), cast_succ]
      rw [List.take_succ_eq_append_getElem hjl, List.map_append]
      rfl
    · have e1 : typed cols[j] = false := decide_eq_false ht
      rw [e1, Bool.false_and, if_neg (by decide)]
      refine Ev.step (f := fun _ => some []) (fun k => ?_) (Ev.now _)
      simp only [errataref20_Witness.l1]
      rw [if_pos (by omega), if_pos (by omega), rd50_at hjl, rwithin_eq, Option.bind_some, if_neg (by rw [decide_eq_false ht]; decide)]
theorem rwit_l0 (n : Nat) (hn : n ≤ 1000) : ∀ d i : Nat, i + d = n → ∀ acc : List S55, acc.length = i →
    Ev (fun k => errataref20_Witness.l0 k (n : Int) cols acc (i : Int)) (if d = 0 then acc else if cols.all typed then acc ++ rowsFrom cols i d else [])
  | 0, i, hi, acc, ha => by
    rw [if_pos rfl]
    refine Ev.step (f := fun _ => some acc) (fun k => ?_) (Ev.now _)
    simp only [errataref20_Witness.l0]
    rw [if_neg (by omega)]
  | d + 1, i, hi, acc, ha => by
    rw [if_neg (by omega)]
    have ih := rwit_l0 n hn d (i + 1) (by omega) (acc ++ [(⟨30001 * (i : Int), cols.map zeroOf, 1⟩ : S55)]) (by rw [List.length_append, List.length_singleton, ha])
    have hR : Ev (fun k => if acc.length < 3518437208883 then (errataref20_Witness.l0 k (n : Int) cols (acc ++ [(⟨30001 * (i : Int), cols.map zeroOf, 1⟩ : S55)]) (wrap64 ((i : Int) + 1))) else none) (if d = 0 then acc ++ [(⟨30001 * (i : Int), cols.map zeroOf, 1⟩ : S55)] else if cols.all typed then acc ++ [(⟨30001 * (i : Int), cols.map zeroOf, 1⟩ : S55)] ++ rowsFrom cols (i + 1) d else []) := by
      refine Ev.congr (fun k => ?_) ih
      rw [if_pos (by omega), wrap_id (n := (i : Int) + 1) (by omega) (by omega), cast_succ]
    have hw := rwit_l1 cols hc acc (n : Int) (i : Int) (30001 * (i : Int)) _ hR cols.length 0 (by omega)
    rw [List.drop_zero] at hw
    have e2 : (if cols.all typed = true then (if d = 0 then acc ++ [(⟨30001 * (i : Int), cols.map zeroOf, 1⟩ : S55)] else if cols.all typed then acc ++ [(⟨30001 * (i : Int), cols.map zeroOf, 1⟩ : S55)] ++ rowsFrom cols (i + 1) d else []) else []) = (if cols.all typed then acc ++ rowsFrom cols i (d + 1) else []) := by
      by_cases ht : cols.all typed = true
      · rw [if_pos ht, if_pos ht, if_pos ht, rowsFrom]
        by_cases hd : d = 0
        · subst hd
          rw [if_pos rfl]
          rfl
        · rw [if_neg hd, List.append_assoc]
          rfl
      · rw [if_neg ht, if_neg ht]
    rw [e2] at hw
    refine Ev.step (fun k => ?_) hw
    simp only [errataref20_Witness.l0]
    rw [if_pos (by omega), wrap_id (n := 30001 * (i : Int)) (by omega) (by omega)]
    rfl
end
def witness (l : List S44) (node n : Int) : List S55 :=
  if well l = true ∧ (0 ≤ node ∧ node < (l.length : Int)) ∧ 1 ≤ n ∧ n ≤ 1000 then
    if bdd (rd_T44 l node) = true ∨ (rd_T44 l node).f1 = [] then [] else rowsOf (rd_T44 l (rd (rd_T44 l node).f1 0)).f15 n.toNat
  else []
theorem well_in {l : List S44} (hw : well l = true) {node : Int} (h : 0 ≤ node ∧ node < (l.length : Int)) (hx : (rd_T44 l node).f1 ≠ []) : 0 ≤ rd (rd_T44 l node).f1 0 ∧ rd (rd_T44 l node).f1 0 < (l.length : Int) := by
  have e : ((node.toNat : Nat) : Int) = node := Int.toNat_of_nonneg h.1
  have hl : node.toNat < l.length := by omega
  rw [← e, rd44_at hl] at hx ⊢
  have hok := okFrom_at l 0 (well_len hw).1 node.toNat hl
  obtain ⟨m1, m2, m3⟩ := node_ins hok
  have := in_at m3 (j := 0) (by cases h : l[node.toNat].f1 with | nil => exact absurd h hx | cons a b => simp)
  rw [show ((0 : Nat) : Int) = 0 from rfl] at this
  omega
section
variable (l : List S44) (F : List S95) (hl : l.length ≤ 9223372036854775807) (hin : ∀ n ∈ l, n.f1.length ≤ 9223372036854775807) (hcols : ∀ n ∈ l, n.f15.length ≤ 20) (node n : Int)
theorem rd44_mem {l : List S44} {i : Int} (h0 : 0 ≤ i) (h1 : i < (l.length : Int)) : rd_T44 l i ∈ l := by
  have e : ((i.toNat : Nat) : Int) = i := Int.toNat_of_nonneg h0
  rw [← e, rd44_at (by omega)]
  exact List.getElem_mem _
include hl hin hcols
theorem Witness_ev : Ev (fun k => bounds_Witness.f k F l node n) (witness l node n) := by
  have hno : Ev (fun k => bounds_Witness.j0 k node n true F l) [] := by
    refine Ev.step (f := fun _ => some []) (fun k => ?_) (Ev.now _)
    simp only [bounds_Witness.j0, if_true]
  unfold witness
  refine Ev.congr (fun k => by unfold bounds_Witness.f; rfl) (Ev.bind (Well_ev l F hl hin) ?_)
  by_cases hw : well l = true
  · have hww := well_len hw
    by_cases hn : 0 ≤ node ∧ node < (l.length : Int)
    · by_cases hm : 1 ≤ n ∧ n ≤ 1000
      · rw [if_pos ⟨hw, hn, hm⟩]
        have hf : ∀ (x : S44) (b : Bool), b = true → Ev (fun k => bounds_Witness.j1 k n b F l x.f0 x.f1 x.f2 x.f3 x.f4 x.f5 x.f6 x.f7 x.f8 x.f9 x.f10 x.f11 x.f12 x.f13 x.f14 x.f15) [] := by
          rintro x b rfl
          refine Ev.step (f := fun _ => some []) (fun k => ?_) (Ev.now _)
          simp only [bounds_Witness.j1, if_true]
        refine Ev.congr (f := fun k => bounds_Witness.j0 k node n false F l) (fun k => ?_) ?_
        · rw [if_pos hw, within_eq, Option.bind_some, wrap_id (n := (l.length : Int) - 1) (by omega) (by omega), if_pos (decide_eq_true (by omega)), within_eq, Option.bind_some, decide_eq_true hm]
          rfl
        by_cases hb : bdd (rd_T44 l node) = true
        · rw [if_pos (Or.inl hb)]
          refine Ev.step (fun k => ?_) (hf (rd_T44 l node) true rfl)
          simp only [bounds_Witness.j0, Bool.false_eq_true, if_false]
          rw [if_pos hn.1, if_pos hn.2, Bounded_eq, Option.bind_some, if_pos hb]
        have hstep : ∀ k, bounds_Witness.j0 (k + 1) node n false F l = bounds_Witness.j1 k n ((((rd_T44 l node).f1).length : Int) == 0) F l (rd_T44 l node).f0 (rd_T44 l node).f1 (rd_T44 l node).f2 (rd_T44 l node).f3 (rd_T44 l node).f4 (rd_T44 l node).f5 (rd_T44 l node).f6 (rd_T44 l node).f7 (rd_T44 l node).f8 (rd_T44 l node).f9 (rd_T44 l node).f10 (rd_T44 l node).f11 (rd_T44 l node).f12 (rd_T44 l node).f13 (rd_T44 l node).f14 (rd_T44 l node).f15 := by
          intro k
          simp only [bounds_Witness.j0, Bool.false_eq_true, if_false]
          rw [if_pos hn.1, if_pos hn.2, Bounded_eq, Option.bind_some, if_neg hb]
        by_cases hx : (rd_T44 l node).f1 = []
        · rw [if_pos (Or.inr hx)]
          refine Ev.step hstep (hf (rd_T44 l node) _ (by rw [hx]; rfl))
        rw [if_neg (fun h => h.elim hb hx)]
        obtain ⟨h0, h1⟩ := well_in hw hn hx
        have hl0 := wit_l0 l F (rd_T44 l node) (rd_T44 l (rd (rd_T44 l node).f1 0)).f15 (hcols _ (rd44_mem h0 h1)) n.toNat (by omega) hx h0 h1 rfl n.toNat 0 (by omega) [] rfl
        rw [if_neg (by omega), List.nil_append, Int.toNat_of_nonneg (by omega)] at hl0
        refine Ev.step hstep (Ev.step (fun k => ?_) hl0)
        have hz : ((((rd_T44 l node).f1).length : Int) == 0) = false := beq_eq_false_iff_ne.2 (fun h => hx (List.length_eq_zero_iff.1 (by omega)))
        simp only [bounds_Witness.j1]
        rw [hz, if_neg (by decide)]
        rfl
      · rw [if_neg (fun h => hm h.2.2)]
        refine Ev.congr (fun k => ?_) hno
        rw [if_pos hw, within_eq, Option.bind_some, wrap_id (n := (l.length : Int) - 1) (by omega) (by omega), if_pos (decide_eq_true (by omega)), within_eq, Option.bind_some, decide_eq_false hm]
        rfl
    · rw [if_neg (fun h => hn h.2.1)]
      refine Ev.congr (fun k => ?_) hno
      rw [if_pos hw, within_eq, Option.bind_some, wrap_id (n := (l.length : Int) - 1) (by omega) (by omega), if_neg (by rw [decide_eq_true_eq]; omega)]
  · rw [if_neg (fun h => hw h.1)]
    exact Ev.congr (fun k => by rw [if_neg hw]) hno
theorem rWitness_ev : Ev (fun k => errataref20_Witness.f k F l node n) (witness l node n) := by
  have hno : ∀ b : Bool, b = true → Ev (fun k => errataref20_Witness.j0 k node n b F l) [] := by
    rintro b rfl
    refine Ev.step (f := fun _ => some []) (fun k => ?_) (Ev.now _)
    simp only [errataref20_Witness.j0, if_true]
  unfold witness
  refine Ev.congr (fun k => by unfold errataref20_Witness.f; rfl) (Ev.bind (rWell_ev l F hl hin) ?_)
  by_cases hw : well l = true
  · have hww := well_len hw
    by_cases hn : 0 ≤ node ∧ node < (l.length : Int)
    · by_cases hm : 1 ≤ n ∧ n ≤ 1000
      · rw [if_pos ⟨hw, hn, hm⟩]
        have hf : ∀ (x : S44) (b : Bool), b = true → Ev (fun k => errataref20_Witness.j1 k n b F l x.f0 x.f1 x.f2 x.f3 x.f4 x.f5 x.f6 x.f7 x.f8 x.f9 x.f10 x.f11 x.f12 x.f13 x.f14 x.f15) [] := by
          rintro x b rfl
          refine Ev.step (f := fun _ => some []) (fun k => ?_) (Ev.now _)
          simp only [errataref20_Witness.j1, if_true]
        refine Ev.congr (f := fun k => errataref20_Witness.j0 k node n false F l) (fun k => ?_) ?_
        · rw [if_pos hw, if_neg (by omega), if_neg (by omega), if_neg (by omega), decide_eq_false (by omega)]
        by_cases hb : bdd (rd_T44 l node) = true
        · rw [if_pos (Or.inl hb)]
          refine Ev.step (fun k => ?_) (hf (rd_T44 l node) true rfl)
          simp only [errataref20_Witness.j0, Bool.false_eq_true, if_false]
          rw [if_pos hn.1, if_pos hn.2, rBounded_eq, Option.bind_some, if_pos hb]
        have hstep : ∀ k, errataref20_Witness.j0 (k + 1) node n false F l = errataref20_Witness.j1 k n ((((rd_T44 l node).f1).length : Int) == 0) F l (rd_T44 l node).f0 (rd_T44 l node).f1 (rd_T44 l node).f2 (rd_T44 l node).f3 (rd_T44 l node).f4 (rd_T44 l node).f5 (rd_T44 l node).f6 (rd_T44 l node).f7 (rd_T44 l node).f8 (rd_T44 l node).f9 (rd_T44 l node).f10 (rd_T44 l node).f11 (rd_T44 l node).f12 (rd_T44 l node).f13 (rd_T44 l node).f14 (rd_T44 l node).f15 := by
          intro k
          simp only [errataref20_Witness.j0, Bool.false_eq_true, if_false]
          rw [if_pos hn.1, if_pos hn.2, rBounded_eq, Option.bind_some, if_neg hb]
        by_cases hx : (rd_T44 l node).f1 = []
        · rw [if_pos (Or.inr hx)]
          refine Ev.step hstep (hf (rd_T44 l node) _ (by rw [hx]; rfl))
        rw [if_neg (fun h => h.elim hb hx)]
        obtain ⟨h0, h1⟩ := well_in hw hn hx
        have hl0 := rwit_l0 (rd_T44 l (rd (rd_T44 l node).f1 0)).f15 (hcols _ (rd44_mem h0 h1)) n.toNat (by omega) n.toNat 0 (by omega) [] rfl
        rw [if_neg (by omega), List.nil_append, Int.toNat_of_nonneg (by omega)] at hl0
        refine Ev.step hstep (Ev.step (fun k => ?_) hl0)
        have hlz : ((rd_T44 l node).f1).length ≠ 0 := fun h => hx (List.length_eq_zero_iff.1 h)
        have hz : ((((rd_T44 l node).f1).length : Int) == 0) = false := beq_eq_false_iff_ne.2 (by omega)
        simp only [errataref20_Witness.j1]
        rw [hz, if_neg (by decide), if_pos (by omega), if_pos h0, if_pos h1]
        rfl
      · rw [if_neg (fun h => hm h.2.2)]
        by_cases h1 : n < 1
        · refine Ev.congr (fun k => ?_) (hno true rfl)
          rw [if_pos hw, if_neg (by omega), if_neg (by omega), if_pos h1]
        · refine Ev.congr (fun k => ?_) (hno (decide (n > 1000)) (decide_eq_true (by omega)))
          rw [if_pos hw, if_neg (by omega), if_neg (by omega), if_neg h1]
    · rw [if_neg (fun h => hn h.2.1)]
      refine Ev.congr (fun k => ?_) (hno true rfl)
      by_cases h1 : node < 0
      · rw [if_pos hw, if_pos h1]
      · rw [if_pos hw, if_neg h1, if_pos (by omega)]
  · rw [if_neg (fun h => hw h.1)]
    exact Ev.congr (fun k => by rw [if_neg hw]) (hno true rfl)
end
theorem SameRows_l1 (l : List S55) (hl : l.length ≤ 9223372036854775807) (i : Nat) (hi : i < l.length) (hr : (l[i].f1).length ≤ 9223372036854775807) (h : Ev (fun k => errataref20_SameRows.l0 k l l (wrap64 ((i : Int) + 1))) true) : ∀ d j : Nat, j + d = (l[i].f1).length → Ev (fun k => errataref20_SameRows.l1 k l l (i : Int) (j : Int)) true
  | 0, j, hj => by
    refine Ev.step (fun k => ?_) h
    simp only [errataref20_SameRows.l1]
    rw [if_pos (by omega), if_pos (by omega), rd55_at hi, if_neg (by omega)]
  | d + 1, j, hj => by
    refine Ev.step (fun k => ?_) (SameRows_l1 l hl i hi hr h d (j + 1) (by omega))
    simp only [errataref20_SameRows.l1]
    rw [if_pos (by omega), if_pos (by omega), rd55_at hi, if_pos (by omega), if_pos (by omega), if_pos (by omega), if_pos (by omega), if_neg (by simp), wrap_id (n := (j : Int) + 1) (by omega) (by omega), cast_succ]
theorem SameRows_l0 (l : List S55) (hl : l.length ≤ 9223372036854775807) (hr : ∀ r ∈ l, r.f1.length ≤ 9223372036854775807) : ∀ d i : Nat, i + d = l.length → Ev (fun k => errataref20_SameRows.l0 k l l (i : Int)) true
  | 0, i, hi => by
    refine Ev.step (f := fun _ => some true) (fun k => ?_) (Ev.now _)
    simp only [errataref20_SameRows.l0]
    rw [if_neg (by omega)]
  | d + 1, i, hi => by
    have hil : i < l.length := by omega
    have ih := SameRows_l0 l hl hr d (i + 1) (by omega)
    have h1 := SameRows_l1 l hl i hil (hr _ (List.getElem_mem hil)) (by rw [wrap_id (n := (i : Int) + 1) (by omega) (by omega), cast_succ]; exact ih) (l[i].f1).length 0 (by omega)
    refine Ev.step (f := fun k => errataref20_SameRows.j1 k l l (i : Int) false) (fun k => ?_) (Ev.step (fun k => ?_) h1)
    · simp only [errataref20_SameRows.l0]
      rw [if_pos (by omega), if_pos (by omega), if_pos (by omega)]
      simp
    · simp only [errataref20_SameRows.j1, Bool.false_eq_true, if_false]
      rfl
theorem SameRows_ev (l : List S55) (hl : l.length ≤ 9223372036854775807) (hr : ∀ r ∈ l, r.f1.length ≤ 9223372036854775807) : Ev (fun k => errataref20_SameRows.f k l l) true := by
  refine Ev.congr (fun k => ?_) (SameRows_l0 l hl hr l.length 0 (by omega))
  unfold errataref20_SameRows.f
  rw [if_pos rfl]
  rfl
theorem rowsFrom_len (cols : List S50) : ∀ d i : Nat, (rowsFrom cols i d).length = d ∧ ∀ r ∈ rowsFrom cols i d, r.f1.length = cols.length
  | 0, i => ⟨rfl, fun r hr => by cases hr⟩
  | d + 1, i => by
    obtain ⟨h1, h2⟩ := rowsFrom_len cols d (i + 1)
    refine ⟨by rw [rowsFrom, List.length_cons, h1], fun r hr => ?_⟩
    rw [rowsFrom] at hr
    rcases List.mem_cons.1 hr with rfl | hr
    · simp
    · exact h2 r hr
theorem witness_len (l : List S44) (hcols : ∀ n ∈ l, n.f15.length ≤ 20) (node n : Int) : (witness l node n).length ≤ 1000 ∧ ∀ r ∈ witness l node n, r.f1.length ≤ 20 := by
  unfold witness
  split
  · rename_i h
    split
    · exact ⟨by simp, fun r hr => by cases hr⟩
    · rename_i hx
      unfold rowsOf
      split
      · obtain ⟨h1, h2⟩ := rowsFrom_len (rd_T44 l (rd (rd_T44 l node).f1 0)).f15 n.toNat 0
        obtain ⟨g0, g1⟩ := well_in h.1 h.2.1 (fun e => hx (Or.inr e))
        exact ⟨by rw [h1]; omega, fun r hr => by rw [h2 r hr]; exact hcols _ (rd44_mem g0 g1)⟩
      · exact ⟨by simp, fun r hr => by cases hr⟩
  · exact ⟨by simp, fun r hr => by cases hr⟩
theorem Same_l0 (l : List S37) (hl : l.length ≤ 9223372036854775807) : ∀ d i : Nat, i + d = l.length → Ev (fun k => errataref20_Same.l0 k l l (i : Int)) true
  | 0, i, hi => by
    refine Ev.step (f := fun _ => some true) (fun k => ?_) (Ev.now _)
    simp only [errataref20_Same.l0]
    rw [if_neg (by omega)]
  | d + 1, i, hi => by
    refine Ev.step (f := fun k => errataref20_Same.l0 k l l ((i + 1 : Nat) : Int)) (fun k => ?_) (Same_l0 l hl d (i + 1) (by omega))
    simp only [errataref20_Same.l0]
    rw [if_pos (by omega), if_pos (by omega), if_pos (by omega), if_neg (by simp), cast_succ, wrap_id (n := ((i + 1 : Nat) : Int)) (by omega) (by omega)]
theorem Same_ev (l : List S37) (hl : l.length ≤ 9223372036854775807) : Ev (fun k => errataref20_Same.f k l l) true := by
  refine Ev.congr (fun k => ?_) (Same_l0 l hl l.length 0 (by omega))
  unfold errataref20_Same.f
  rw [if_pos rfl]
  rfl
end Go.Proofs.Yteoljddobfnfiaa.Pure
end
section
namespace Go.Proofs.Yteoljddobfnfiaa.PB
open Go.RowKit Go.Proofs.YteoljddobfnfiaaW.PrintWords Go.Proofs.YteoljddobfnfiaaW.PrintLast Go.Proofs.YteoljddobfnfiaaW.PrintMore
attribute [local go_sem] max2_int min2_int max_two min_two max_three min_three max_four min_four
attribute [local go_sem ↓ high] Go.Proofs.Yteoljddobfnfiaa.My.ld44_eq Go.Proofs.Yteoljddobfnfiaa.My.st44_eq Go.Proofs.Yteoljddobfnfiaa.My.ld27_eq Go.Proofs.Yteoljddobfnfiaa.My.st27_eq Go.Proofs.Yteoljddobfnfiaa.My.ld37_eq Go.Proofs.Yteoljddobfnfiaa.My.st37_eq Go.Proofs.Yteoljddobfnfiaa.My.ld65_eq Go.Proofs.Yteoljddobfnfiaa.My.st65_eq
attribute [local go_sem high] Go.Proofs.Yteoljddobfnfiaa.My.ld44_run Go.Proofs.Yteoljddobfnfiaa.My.st44_run Go.Proofs.Yteoljddobfnfiaa.My.ld27_run Go.Proofs.Yteoljddobfnfiaa.My.st27_run Go.Proofs.Yteoljddobfnfiaa.My.ld37_run Go.Proofs.Yteoljddobfnfiaa.My.st37_run Go.Proofs.Yteoljddobfnfiaa.My.ld65_run Go.Proofs.Yteoljddobfnfiaa.My.st65_run
open Go.Proofs.Yteoljddobfnfiaa.My
attribute [local go_sem] cell_map run_store_fnV one_int one_bool one_string one_slice one_fnV
set_option linter.unusedVariables false
set_option linter.unusedSimpArgs false

attribute [local go_sem high] eqA37
def erratalaw20_BoundsTells.j0 : Nat → Int → Int → Bool → Bool → List (S95) → List (S44) → Int → Int → Int → Int → Int → Int → Int → List Int → ByteArray → Int → List (S93) → Int → Int → Int → List Int → List Int → Int → Int → Int → List (S97) → List (S99) → List (S50) → Option (Bool)
  | 0, _, _, _, _, _, _, _, _, _, _, _, _, _, _, _, _, _, _, _, _, _, _, _, _, _, _, _, _ => none
  | k + 1, x3, x4, x11, x100, x454000, x454001, x455000, x455001, x455002, x455003, x455004, x455005, x456000, x456001, x456002, x456003, x456004, x456005, x456006, x456007, x456008, x456009, x456010, x456011, x456012, x456013, x456014, x456015 => if x100 = true then (some false) else (if x11 = true then ((bounds_RightConfig.f x455000 x455001 x455002 x455003 x455004 x455005).bind fun t485 => ((errataref20_RightConfig.f x455000 x455001 x455002 x455003 x455004 x455005).bind fun t486 => (if (t485 == t486) = true then ((bounds_Well.f k x454000 x454001).bind fun t487 => ((errataref20_Well.f k x454000 x454001).bind fun t488 => (if (t487 == t488) = true then ((bounds_Bounded.f x456000 x456001 x456002 x456003 x456004 x456005 x456006 x456007 x456008 x456009 x456010 x456011 x456012 x456013 x456014 x456015).bind fun t489 => ((errataref20_Bounded.f x456000 x456001 x456002 x456003 x456004 x456005 x456006 x456007 x456008 x456009 x456010 x456011 x456012 x456013 x456014 x456015).bind fun t490 => (if (t489 == t490) = true then ((bounds_Witness.f k x454000 x454001 x3 x4).bind fun t491 => ((errataref20_Witness.f k x454000 x454001 x3 x4).bind fun t494 => ((errataref20_SameRows.f k t491 t494).bind fun t497 => (some t497)))) else (some false)))) else (some false)))) else (some false)))) else (some false))
def erratalaw20_BoundsTells.f (k : Nat) (l0_0 : List (S95)) (l0_1 : List (S44)) (a1_0 : Int) (a1_1 : Int) (a1_2 : Int) (a1_3 : Int) (a1_4 : Int) (a1_5 : Int) (a2_0 : Int) (l2_1 : List Int) (a2_2 : ByteArray) (a2_3 : Int) (l2_4 : List (S93)) (a2_5 : Int) (a2_6 : Int) (a2_7 : Int) (l2_8 : List Int) (l2_9 : List Int) (a2_10 : Int) (a2_11 : Int) (a2_12 : Int) (l2_13 : List (S97)) (l2_14 : List (S99)) (l2_15 : List (S50)) (a3 : Int) (a4 : Int) : Option (Bool) := (erratalaw20_small.f k).bind fun t456 => ((erratalaw20_few.f k l0_0 l0_1).bind fun t457 => (if t457 = true then ((bounds_Analyze.f k l0_0 l0_1 a1_0 a1_1 a1_2 a1_3 a1_4 a1_5).bind fun bt458 => ((errataref20_Analyze.f k l0_0 l0_1 a1_0 a1_1 a1_2 a1_3 a1_4 a1_5).bind fun bt463 => ((bounds_Total.f k l0_0 l0_1 a1_0 a1_1 a1_2 a1_3 a1_4 a1_5).bind fun bt468 => ((errataref20_Total.f k l0_0 l0_1 a1_0 a1_1 a1_2 a1_3 a1_4 a1_5).bind fun bt474 => ((bounds_Own.f a2_0 l2_1 a2_2 a2_3 l2_4 a2_5 a2_6 a2_7 l2_8 l2_9 a2_10 a2_11 a2_12 l2_13 l2_14 l2_15).bind fun bt480 => ((errataref20_Own.f a2_0 l2_1 a2_2 a2_3 l2_4 a2_5 a2_6 a2_7 l2_8 l2_9 a2_10 a2_11 a2_12 l2_13 l2_14 l2_15).bind fun bt482 => ((errataref20_Same.f k bt458.1 bt463.1).bind fun t484 => (if t484 = true then (if bt458.2.1 = bt463.2.1 then (if bt458.2.2 = bt463.2.2 then (if (!(bt468.1 == bt474.1) || (!(bt468.2.1 == bt474.2.1) || (!(bt468.2.2.1 == bt474.2.2.1) || (!(bt468.2.2.2.1 == bt474.2.2.2.1))))) = true then (erratalaw20_BoundsTells.j0 k a3 a4 t456 true l0_0 l0_1 a1_0 a1_1 a1_2 a1_3 a1_4 a1_5 a2_0 l2_1 a2_2 a2_3 l2_4 a2_5 a2_6 a2_7 l2_8 l2_9 a2_10 a2_11 a2_12 l2_13 l2_14 l2_15) else (if bt468.2.2.2.2 = bt474.2.2.2.2 then (if bt480.1 = bt482.1 then (erratalaw20_BoundsTells.j0 k a3 a4 t456 (bt480.2 != bt482.2) l0_0 l0_1 a1_0 a1_1 a1_2 a1_3 a1_4 a1_5 a2_0 l2_1 a2_2 a2_3 l2_4 a2_5 a2_6 a2_7 l2_8 l2_9 a2_10 a2_11 a2_12 l2_13 l2_14 l2_15) else (erratalaw20_BoundsTells.j0 k a3 a4 t456 true l0_0 l0_1 a1_0 a1_1 a1_2 a1_3 a1_4 a1_5 a2_0 l2_1 a2_2 a2_3 l2_4 a2_5 a2_6 a2_7 l2_8 l2_9 a2_10 a2_11 a2_12 l2_13 l2_14 l2_15)) else (erratalaw20_BoundsTells.j0 k a3 a4 t456 true l0_0 l0_1 a1_0 a1_1 a1_2 a1_3 a1_4 a1_5 a2_0 l2_1 a2_2 a2_3 l2_4 a2_5 a2_6 a2_7 l2_8 l2_9 a2_10 a2_11 a2_12 l2_13 l2_14 l2_15))) else (erratalaw20_BoundsTells.j0 k a3 a4 t456 true l0_0 l0_1 a1_0 a1_1 a1_2 a1_3 a1_4 a1_5 a2_0 l2_1 a2_2 a2_3 l2_4 a2_5 a2_6 a2_7 l2_8 l2_9 a2_10 a2_11 a2_12 l2_13 l2_14 l2_15)) else (erratalaw20_BoundsTells.j0 k a3 a4 t456 true l0_0 l0_1 a1_0 a1_1 a1_2 a1_3 a1_4 a1_5 a2_0 l2_1 a2_2 a2_3 l2_4 a2_5 a2_6 a2_7 l2_8 l2_9 a2_10 a2_11 a2_12 l2_13 l2_14 l2_15)) else (erratalaw20_BoundsTells.j0 k a3 a4 t456 true l0_0 l0_1 a1_0 a1_1 a1_2 a1_3 a1_4 a1_5 a2_0 l2_1 a2_2 a2_3 l2_4 a2_5 a2_6 a2_7 l2_8 l2_9 a2_10 a2_11 a2_12 l2_13 l2_14 l2_15))))))))) else (some t456)))
def erratalaw20_BoundsTells.T12 : Bool × List (List Nat × List Nat) := (true, [([], []), ([0], [0]), ([1], [1]), ([2, 1, 1], [1, 2]), ([1], [1]), ([4, 3, 1], [1, 4]), ([3, 5, 1], [1, 3, 5]), ([1, 6], [1, 6]), ([7, 5], [7]), ([8], [8]), ([9, 8, 8], [8, 9]), ([8], [8]), ([11, 10, 8], [8, 11]), ([10, 12, 8], [8, 10, 12]), ([8, 13], [8, 13]), ([14, 12], [14]), ([15], [15]), ([16, 15, 15], [15, 16]), ([15], [15]), ([18, 17, 15], [15, 18]), ([17, 19, 15], [15, 17, 19]), ([15, 20], [15, 20]), ([21, 19], [21]), ([22], [22]), ([22], [22]), ([22], [22]), ([23, 24, 25, 22, 22], [22, 23, 24, 25]), ([22], [22]), ([22], [22]), ([22], [22]), ([27, 28, 29, 26, 22], [22, 27, 28, 29]), ([26, 30, 30, 22], [22, 26, 30]), ([22, 31], [22, 31]), ([32, 31, 0, 1, 2, 3, 4, 5, 6, 7, 8, 9, 10, 11, 12, 13, 14, 15, 16, 17, 18, 19, 20, 21, 22, 23, 24, 25, 26, 27, 28, 29, 30, 31, 32], [32])])
def erratalaw20_BoundsTells.B12 : List Nat := [0, 1, 3, 7, 3, 31, 63, 127, 255, 511, 1023, 511, 4095, 8191, 16383, 32767, 65535, 131071, 65535, 524287, 1048575, 2097151, 4194303, 8388607, 8388607, 8388607, 67108863, 8388607, 8388607, 8388607, 1073741823, 2147483647, 4294967295, 8589934591]
theorem erratalaw20_BoundsTells.tab12 : rtab .any (opsOf Try.f6 12) = erratalaw20_BoundsTells.T12 := by kernel_rfl
theorem erratalaw20_BoundsTells.bits12 : waitsOk erratalaw20_BoundsTells.T12.2 erratalaw20_BoundsTells.B12 = true := by kernel_rfl
set_option maxHeartbeats 8000000 in
set_option maxRecDepth 100000 in
theorem erratalaw20_BoundsTells.calls (k : Nat) (A0_0 : Option Addr) (c0_0 : Nat) (l0_0 : List (S95)) (A0_1 : Option Addr) (c0_1 : Nat) (l0_1 : List (S44)) (a1_0 : Int) (a1_1 : Int) (a1_2 : Int) (a1_3 : Int) (a1_4 : Int) (a1_5 : Int) (a2_0 : Int) (A2_1 : Option Addr) (c2_1 : Nat) (l2_1 : List Int) (a2_2 : ByteArray) (a2_3 : Int) (A2_4 : Option Addr) (c2_4 : Nat) (l2_4 : List (S93)) (a2_5 : Int) (a2_6 : Int) (a2_7 : Int) (A2_8 : Option Addr) (c2_8 : Nat) (l2_8 : List Int) (A2_9 : Option Addr) (c2_9 : Nat) (l2_9 : List Int) (a2_10 : Int) (a2_11 : Int) (a2_12 : Int) (A2_13 : Option Addr) (c2_13 : Nat) (l2_13 : List (S97)) (A2_14 : Option Addr) (c2_14 : Nat) (l2_14 : List (S99)) (A2_15 : Option Addr) (c2_15 : Nat) (l2_15 : List (S50)) (a3 : Int) (a4 : Int) (w : World) (hr0_0 : Kd.C k95 w A0_0 l0_0.length l0_0) (hc0_0 : l0_0.length ≤ c0_0) (hr0_1 : Kd.C k44 w A0_1 l0_1.length l0_1) (hc0_1 : l0_1.length ≤ c0_1) (hr2_1 : Kd.C (Kd.int .i64) w A2_1 l2_1.length l2_1) (hc2_1 : l2_1.length ≤ c2_1) (hr2_4 : Kd.C k93 w A2_4 l2_4.length l2_4) (hc2_4 : l2_4.length ≤ c2_4) (hr2_8 : Kd.C (Kd.int .i64) w A2_8 l2_8.length l2_8) (hc2_8 : l2_8.length ≤ c2_8) (hr2_9 : Kd.C (Kd.int .i64) w A2_9 l2_9.length l2_9) (hc2_9 : l2_9.length ≤ c2_9) (hr2_13 : Kd.C k97 w A2_13 l2_13.length l2_13) (hc2_13 : l2_13.length ≤ c2_13) (hr2_14 : Kd.C k99 w A2_14 l2_14.length l2_14) (hc2_14 : l2_14.length ≤ c2_14) (hr2_15 : Kd.C k50 w A2_15 l2_15.length l2_15) (hc2_15 : l2_15.length ≤ c2_15) (h : erratalaw20_BoundsTells.f k l0_0 l0_1 a1_0 a1_1 a1_2 a1_3 a1_4 a1_5 a2_0 l2_1 a2_2 a2_3 l2_4 a2_5 a2_6 a2_7 l2_8 l2_9 a2_10 a2_11 a2_12 l2_13 l2_14 l2_15 a3 a4 = some true) :
    Calls Try.prog 6 #[.agg #[.slice A0_0 l0_0.length c0_0, .slice A0_1 l0_1.length c0_1], .agg #[.int .i64 a1_0, .int .i64 a1_1, .int .i64 a1_2, .int .i64 a1_3, .int .i64 a1_4, .int .i64 a1_5], .agg #[.int .i64 a2_0, .slice A2_1 l2_1.length c2_1, .string a2_2, .int .i64 a2_3, .slice A2_4 l2_4.length c2_4, .int .i64 a2_5, .int .i64 a2_6, .int .i64 a2_7, .slice A2_8 l2_8.length c2_8, .slice A2_9 l2_9.length c2_9, .int .i64 a2_10, .int .i64 a2_11, .int .i64 a2_12, .slice A2_13 l2_13.length c2_13, .slice A2_14 l2_14.length c2_14, .slice A2_15 l2_15.length c2_15], .int .i64 a3, .int .i64 a4] w fun e w' => e = .returned (.bool true) ∧ Below w.heap.size w w' := by
 have hu25 := Try.underlying25
 have hu27 := Try.underlying27
 have hu44 := Try.underlying44
 have hu37 := Try.underlying37
 have HR0_0 := Aside0.mk hr0_0
 have HC0_0 := Aside0.mk hc0_0
 clear hr0_0 hc0_0
 have HR0_1 := Aside0.mk hr0_1
 have HC0_1 := Aside0.mk hc0_1
 clear hr0_1 hc0_1
 have HR2_1 := Aside0.mk hr2_1
 have HC2_1 := Aside0.mk hc2_1
 clear hr2_1 hc2_1
 have HR2_4 := Aside0.mk hr2_4
 have HC2_4 := Aside0.mk hc2_4
 clear hr2_4 hc2_4
 have HR2_8 := Aside0.mk hr2_8
 have HC2_8 := Aside0.mk hc2_8
 clear hr2_8 hc2_8
 have HR2_9 := Aside0.mk hr2_9
 have HC2_9 := Aside0.mk hc2_9
 clear hr2_9 hc2_9
 have HR2_13 := Aside0.mk hr2_13
 have HC2_13 := Aside0.mk hc2_13
 clear hr2_13 hc2_13
 have HR2_14 := Aside0.mk hr2_14
 have HC2_14 := Aside0.mk hc2_14
 clear hr2_14 hc2_14
 have HR2_15 := Aside0.mk hr2_15
 have HC2_15 := Aside0.mk hc2_15
 clear hr2_15 hc2_15
 have HB := Aside0.mk (Below.refl w.heap.size w)
 have H : ((erratalaw20_small.f k).bind fun t456 => ((erratalaw20_few.f k l0_0 l0_1).bind fun t457 => (if t457 = true then ((bounds_Analyze.f k l0_0 l0_1 a1_0 a1_1 a1_2 a1_3 a1_4 a1_5).bind fun bt458 => ((errataref20_Analyze.f k l0_0 l0_1 a1_0 a1_1 a1_2 a1_3 a1_4 a1_5).bind fun bt463 => ((bounds_Total.f k l0_0 l0_1 a1_0 a1_1 a1_2 a1_3 a1_4 a1_5).bind fun bt468 => ((errataref20_Total.f k l0_0 l0_1 a1_0 a1_1 a1_2 a1_3 a1_4 a1_5).bind fun bt474 => ((bounds_Own.f a2_0 l2_1 a2_2 a2_3 l2_4 a2_5 a2_6 a2_7 l2_8 l2_9 a2_10 a2_11 a2_12 l2_13 l2_14 l2_15).bind fun bt480 => ((errataref20_Own.f a2_0 l2_1 a2_2 a2_3 l2_4 a2_5 a2_6 a2_7 l2_8 l2_9 a2_10 a2_11 a2_12 l2_13 l2_14 l2_15).bind fun bt482 => ((errataref20_Same.f k bt458.1 bt463.1).bind fun t484 => (if t484 = true then (if bt458.2.1 = bt463.2.1 then (if bt458.2.2 = bt463.2.2 then (if (!(bt468.1 == bt474.1) || (!(bt468.2.1 == bt474.2.1) || (!(bt468.2.2.1 == bt474.2.2.1) || (!(bt468.2.2.2.1 == bt474.2.2.2.1))))) = true then (erratalaw20_BoundsTells.j0 k a3 a4 t456 true l0_0 l0_1 a1_0 a1_1 a1_2 a1_3 a1_4 a1_5 a2_0 l2_1 a2_2 a2_3 l2_4 a2_5 a2_6 a2_7 l2_8 l2_9 a2_10 a2_11 a2_12 l2_13 l2_14 l2_15) else (if bt468.2.2.2.2 = bt474.2.2.2.2 then (if bt480.1 = bt482.1 then (erratalaw20_BoundsTells.j0 k a3 a4 t456 (bt480.2 != bt482.2) l0_0 l0_1 a1_0 a1_1 a1_2 a1_3 a1_4 a1_5 a2_0 l2_1 a2_2 a2_3 l2_4 a2_5 a2_6 a2_7 l2_8 l2_9 a2_10 a2_11 a2_12 l2_13 l2_14 l2_15) else (erratalaw20_BoundsTells.j0 k a3 a4 t456 true l0_0 l0_1 a1_0 a1_1 a1_2 a1_3 a1_4 a1_5 a2_0 l2_1 a2_2 a2_3 l2_4 a2_5 a2_6 a2_7 l2_8 l2_9 a2_10 a2_11 a2_12 l2_13 l2_14 l2_15)) else (erratalaw20_BoundsTells.j0 k a3 a4 t456 true l0_0 l0_1 a1_0 a1_1 a1_2 a1_3 a1_4 a1_5 a2_0 l2_1 a2_2 a2_3 l2_4 a2_5 a2_6 a2_7 l2_8 l2_9 a2_10 a2_11 a2_12 l2_13 l2_14 l2_15))) else (erratalaw20_BoundsTells.j0 k a3 a4 t456 true l0_0 l0_1 a1_0 a1_1 a1_2 a1_3 a1_4 a1_5 a2_0 l2_1 a2_2 a2_3 l2_4 a2_5 a2_6 a2_7 l2_8 l2_9 a2_10 a2_11 a2_12 l2_13 l2_14 l2_15)) else (erratalaw20_BoundsTells.j0 k a3 a4 t456 true l0_0 l0_1 a1_0 a1_1 a1_2 a1_3 a1_4 a1_5 a2_0 l2_1 a2_2 a2_3 l2_4 a2_5 a2_6 a2_7 l2_8 l2_9 a2_10 a2_11 a2_12 l2_13 l2_14 l2_15)) else (erratalaw20_BoundsTells.j0 k a3 a4 t456 true l0_0 l0_1 a1_0 a1_1 a1_2 a1_3 a1_4 a1_5 a2_0 l2_1 a2_2 a2_3 l2_4 a2_5 a2_6 a2_7 l2_8 l2_9 a2_10 a2_11 a2_12 l2_13 l2_14 l2_15))))))))) else (some t456)))) = some true := h
 clear h
 replace H := Option.bind_eq_some_iff.mp H
 obtain ⟨t456, A60, H⟩ := H
 try dsimp only at H
 have A6 := Aside0.mk A60
 clear A60
 replace H := Option.bind_eq_some_iff.mp H
 obtain ⟨t457, A70, H⟩ := H
 try dsimp only at H
 have A7 := Aside0.mk A70
 clear A70
 by_cases c8 : t457 = true
 ·
  subst c8
  rw [if_pos rfl] at H
  replace H := Option.bind_eq_some_iff.mp H
  obtain ⟨⟨t458, t461, t462⟩, A90, H⟩ := H
  try dsimp only at H
  have A9 := Aside0.mk A90
  clear A90
  replace H := Option.bind_eq_some_iff.mp H
  obtain ⟨⟨t463, t466, t467⟩, A100, H⟩ := H
  try dsimp only at H
  have A10 := Aside0.mk A100
  clear A100
  replace H := Option.bind_eq_some_iff.mp H
  obtain ⟨⟨t468, t469, t470, t471, t472⟩, A110, H⟩ := H
  try dsimp only at H
  have A11 := Aside0.mk A110
  clear A110
  replace H := Option.bind_eq_some_iff.mp H
  obtain ⟨⟨t474, t475, t476, t477, t478⟩, A120, H⟩ := H
  try dsimp only at H
  have A12 := Aside0.mk A120
  clear A120
  replace H := Option.bind_eq_some_iff.mp H
  obtain ⟨⟨t480, t481⟩, A130, H⟩ := H
  try dsimp only at H
  have A13 := Aside0.mk A130
  clear A130
  replace H := Option.bind_eq_some_iff.mp H
  obtain ⟨⟨t482, t483⟩, A140, H⟩ := H
  try dsimp only at H
  have A14 := Aside0.mk A140
  clear A140
  have HC15 := Aside0.mk H
  clear H
  go_enter Try.func6, Try.ntmps6
  go_upto_region 10 with (first | ((with_reducible refine gate_dst (N := 5) rfl ?_); refine box_event ?hg (N := 5) ?hd (cs := #[.slice A0_0 l0_0.length c0_0, .slice A0_1 l0_1.length c0_1]) (t := 25) ?hr ?_; (case hd => rfl); (case hg => rfl); (case hr => first | (go_simp; done) | (go_simp; rfl)); intro gb453 hg w16 hbox hb; have BK453 := Aside0.mk (hbox); have GW453 := Aside0.mk ((by rw [hg]; exact below_sizeA : w.heap.size ≤ gb453)); have GE453 := GW453; replace HB := Aside0.mk (below_stepA hb); clear hb hbox hg) | ((with_reducible refine gate_dst (N := 6) rfl ?_); refine box_event ?hg (N := 6) ?hd (cs := #[.int .i64 a1_0, .int .i64 a1_1, .int .i64 a1_2, .int .i64 a1_3, .int .i64 a1_4, .int .i64 a1_5]) (t := 27) ?hr ?_; (case hd => rfl); (case hg => rfl); (case hr => first | (go_simp; done) | (go_simp; rfl)); intro gb454 hg w17 hbox hb; have BK454 := Aside0.mk (hbox); have GW454 := Aside0.mk ((by rw [hg]; exact below_sizeA : w.heap.size ≤ gb454)); have GE454 := GW454; have NB453_454 := Aside0.mk ((by rw [hg]; exact Nat.ne_of_lt (blk_ltKA BK453.out) : gb453 ≠ gb454)); have NB454_453 := Aside0.mk NB453_454.out.symm; replace BK453 := Aside0.mk (blk_keepA BK453.out hb); replace HB := Aside0.mk (below_stepA hb); clear hb hbox hg) | ((with_reducible refine gate_dst (N := 7) rfl ?_); refine box_event ?hg (N := 7) ?hd (cs := (B44 a2_0 A2_1 l2_1 c2_1 a2_2 a2_3 A2_4 l2_4 c2_4 a2_5 a2_6 a2_7 A2_8 l2_8 c2_8 A2_9 l2_9 c2_9 a2_10 a2_11 a2_12 A2_13 l2_13 c2_13 A2_14 l2_14 c2_14 A2_15 l2_15 c2_15)) (t := 44) ?hr ?_; (case hd => rfl); (case hg => rfl); (case hr => first | (go_simp; done) | (go_simp; rfl)); intro gb455 hg w18 hbox hb; have BK455 := Aside0.mk (hbox); have GW455 := Aside0.mk ((by rw [hg]; exact below_sizeA : w.heap.size ≤ gb455)); have GE455 := GW455; have NB453_455 := Aside0.mk ((by rw [hg]; exact Nat.ne_of_lt (blk_ltKA BK453.out) : gb453 ≠ gb455)); have NB455_453 := Aside0.mk NB453_455.out.symm; have NB454_455 := Aside0.mk ((by rw [hg]; exact Nat.ne_of_lt (blk_ltKA BK454.out) : gb454 ≠ gb455)); have NB455_454 := Aside0.mk NB454_455.out.symm; replace BK453 := Aside0.mk (blk_keepA BK453.out hb); replace BK454 := Aside0.mk (blk_keepA BK454.out hb); replace HB := Aside0.mk (below_stepA hb); clear hb hbox hg) | ((with_reducible refine gate_callee (f := 7) rfl ?_); refine goesL_ (some 26) rfl rfl Try.func7 (by kernel_rfl) rfl #[] rfl mapA ?_; (with_reducible refine (erratalaw20_small.calls k t456 _ A6.out).mono ?_); rintro e w19 ⟨rfl, hb⟩; refine ⟨_, rfl, ?_⟩; replace BK453 := Aside0.mk (blk_keepA BK453.out hb); replace BK454 := Aside0.mk (blk_keepA BK454.out hb); replace BK455 := Aside0.mk (blk_keepA BK455.out hb); replace HB := Aside0.mk (below_stepA hb); (try clear hb); have hnb20 := NB453_454.out; have hnc20 := NB454_453.out; have hnb21 := NB453_455.out; have hnc21 := NB455_453.out; have hz22 := blk2 BK453.out) | ((with_reducible refine gate_callee (f := 8) rfl ?_); refine goesL_ (some 28) rfl rfl Try.func8 (by kernel_rfl) rfl #[.agg #[.slice A0_0 l0_0.length c0_0, .slice A0_1 l0_1.length c0_1]] rfl mapA ?_; (with_reducible refine (erratalaw20_few.calls k _ _ l0_0 _ _ l0_1 true _ (c_belowA HR0_0.out) HC0_0.out (c_belowA HR0_1.out) HC0_1.out A7.out).mono ?_); rintro e w23 ⟨rfl, hb⟩; refine ⟨_, rfl, ?_⟩; replace BK453 := Aside0.mk (blk_keepA BK453.out hb); replace BK454 := Aside0.mk (blk_keepA BK454.out hb); replace BK455 := Aside0.mk (blk_keepA BK455.out hb); replace HB := Aside0.mk (below_stepA hb); (try clear hb); have hz24 := blk2 BK453.out; have hnb25 := NB454_455.out; have hnc25 := NB455_454.out; have hz26 := blk6 BK454.out) | ((with_reducible refine gate_callee (f := 9) rfl ?_); refine goesL_ (some 34) rfl rfl Try.func9 (by kernel_rfl) rfl #[.agg #[.slice A0_0 l0_0.length c0_0, .slice A0_1 l0_1.length c0_1], .agg #[.int .i64 a1_0, .int .i64 a1_1, .int .i64 a1_2, .int .i64 a1_3, .int .i64 a1_4, .int .i64 a1_5]] rfl mapA ?_; (with_reducible refine (bounds_Analyze.calls k _ _ l0_0 _ _ l0_1 a1_0 a1_1 a1_2 a1_3 a1_4 a1_5 t458 t461 t462 _ (c_belowA HR0_0.out) HC0_0.out (c_belowA HR0_1.out) HC0_1.out A9.out).mono ?_); rintro e w27 ⟨v459, rfl, ho0, hb⟩; refine ⟨_, rfl, ?_⟩; have HO460 := Aside0.mk (Kd.R_lower ho0 below_sizeA); replace BK453 := Aside0.mk (blk_keepA BK453.out hb); replace BK454 := Aside0.mk (blk_keepA BK454.out hb); replace BK455 := Aside0.mk (blk_keepA BK455.out hb); replace HB := Aside0.mk (below_stepA hb); (try clear hb); (try clear ho0); have hz28 := blk2 BK453.out; have hz29 := blk6 BK454.out) | ((with_reducible refine gate_callee (f := 14) rfl ?_); refine goesL_ (some 41) rfl rfl Try.func14 (by kernel_rfl) rfl #[.agg #[.slice A0_0 l0_0.length c0_0, .slice A0_1 l0_1.length c0_1], .agg #[.int .i64 a1_0, .int .i64 a1_1, .int .i64 a1_2, .int .i64 a1_3, .int .i64 a1_4, .int .i64 a1_5]] rfl mapA ?_; (with_reducible refine (errataref20_Analyze.calls k _ _ l0_0 _ _ l0_1 a1_0 a1_1 a1_2 a1_3 a1_4 a1_5 t463 t466 t467 _ (c_belowA HR0_0.out) HC0_0.out (c_belowA HR0_1.out) HC0_1.out A10.out).mono ?_); rintro e w30 ⟨v464, rfl, ho0, hb⟩; refine ⟨_, rfl, ?_⟩; have HO465 := Aside0.mk (Kd.R_lower (Kd.R_new' ho0 (Kd.R_lt (by (with_reducible repeat (first | apply Kd.R_alloc | apply Kd.R_drewN | apply Kd.R_drew)); exact HO460.out))) below_sizeA); replace HO460 := Aside0.mk (Kd.R_elder' (by (with_reducible repeat (first | apply Kd.R_alloc | apply Kd.R_drewN | apply Kd.R_drew)); exact HO460.out) (Kd.R_base ho0) hb); replace BK453 := Aside0.mk (blk_keepA BK453.out hb); replace BK454 := Aside0.mk (blk_keepA BK454.out hb); replace BK455 := Aside0.mk (blk_keepA BK455.out hb); replace HB := Aside0.mk (below_stepA hb); (try clear hb); (try clear ho0); have hz31 := blk2 BK453.out; have hz32 := blk6 BK454.out) | ((with_reducible refine gate_callee (f := 15) rfl ?_); refine goesL_ (some 48) rfl rfl Try.func15 (by kernel_rfl) rfl #[.agg #[.slice A0_0 l0_0.length c0_0, .slice A0_1 l0_1.length c0_1], .agg #[.int .i64 a1_0, .int .i64 a1_1, .int .i64 a1_2, .int .i64 a1_3, .int .i64 a1_4, .int .i64 a1_5]] rfl mapA ?_; (with_reducible refine (bounds_Total.calls k _ _ l0_0 _ _ l0_1 a1_0 a1_1 a1_2 a1_3 a1_4 a1_5 t468 t469 t470 t471 t472 _ (c_belowA HR0_0.out) HC0_0.out (c_belowA HR0_1.out) HC0_1.out A11.out).mono ?_); rintro e w33 ⟨rfl, hb⟩; refine ⟨_, rfl, ?_⟩; replace HO460 := Aside0.mk (Kd.R_below (by (with_reducible repeat (first | apply Kd.R_alloc | apply Kd.R_drewN | apply Kd.R_drew)); exact HO460.out) hb); replace HO465 := Aside0.mk (Kd.R_below (by (with_reducible repeat (first | apply Kd.R_alloc | apply Kd.R_drewN | apply Kd.R_drew)); exact HO465.out) hb); replace BK453 := Aside0.mk (blk_keepA BK453.out hb); replace BK454 := Aside0.mk (blk_keepA BK454.out hb); replace BK455 := Aside0.mk (blk_keepA BK455.out hb); replace HB := Aside0.mk (below_stepA hb); (try clear hb)) | ((with_reducible refine gate_dst (N := 18) rfl ?_); refine box_event ?hg (N := 18) ?hd (cs := #[.int .i64 0, .int .i64 0, .int .i64 0, .int .i64 0]) (t := 37) ?hr ?_; (case hd => rfl); (case hg => rfl); (case hr => first | (go_simp; done) | (go_simp; rfl)); intro gb473 hg w34 hbox hb; have BK473 := Aside0.mk (hbox); have GW473 := Aside0.mk ((by rw [hg]; exact below_sizeA : w.heap.size ≤ gb473)); have GE473 := GW473; have NB453_473 := Aside0.mk ((by rw [hg]; exact Nat.ne_of_lt (blk_ltKA BK453.out) : gb453 ≠ gb473)); have NB473_453 := Aside0.mk NB453_473.out.symm; have NB454_473 := Aside0.mk ((by rw [hg]; exact Nat.ne_of_lt (blk_ltKA BK454.out) : gb454 ≠ gb473)); have NB473_454 := Aside0.mk NB454_473.out.symm; have NB455_473 := Aside0.mk ((by rw [hg]; exact Nat.ne_of_lt (blk_ltKA BK455.out) : gb455 ≠ gb473)); have NB473_455 := Aside0.mk NB455_473.out.symm; replace HO460 := Aside0.mk (Kd.R_below (Kd.R_elderB (by (with_reducible repeat (first | apply Kd.R_alloc | apply Kd.R_drewN | apply Kd.R_drew)); exact HO460.out) gb473 (Nat.le_of_eq hg.symm)) hb); replace HO465 := Aside0.mk (Kd.R_below (Kd.R_elderB (by (with_reducible repeat (first | apply Kd.R_alloc | apply Kd.R_drewN | apply Kd.R_drew)); exact HO465.out) gb473 (Nat.le_of_eq hg.symm)) hb); replace BK453 := Aside0.mk (blk_keepA BK453.out hb); replace BK454 := Aside0.mk (blk_keepA BK454.out hb); replace BK455 := Aside0.mk (blk_keepA BK455.out hb); replace HB := Aside0.mk (below_stepA hb); clear hb hbox hg; have hnb35 := NB473_453.out; have hnc35 := NB453_473.out; have hnb36 := NB473_454.out; have hnc36 := NB454_473.out; have hnb37 := NB473_455.out; have hnc37 := NB455_473.out; have hz38 := blk4 BK473.out; have hz39 := blk2 BK453.out; have hz40 := blk6 BK454.out) | ((with_reducible refine gate_callee (f := 16) rfl ?_); refine goesL_ (some 54) rfl rfl Try.func16 (by kernel_rfl) rfl #[.agg #[.slice A0_0 l0_0.length c0_0, .slice A0_1 l0_1.length c0_1], .agg #[.int .i64 a1_0, .int .i64 a1_1, .int .i64 a1_2, .int .i64 a1_3, .int .i64 a1_4, .int .i64 a1_5]] rfl mapA ?_; (with_reducible refine (errataref20_Total.calls k _ _ l0_0 _ _ l0_1 a1_0 a1_1 a1_2 a1_3 a1_4 a1_5 t474 t475 t476 t477 t478 _ (c_belowB HR0_0.out) HC0_0.out (c_belowB HR0_1.out) HC0_1.out A12.out).mono ?_); rintro e w41 ⟨rfl, hb⟩; refine ⟨_, rfl, ?_⟩; replace HO460 := Aside0.mk (Kd.R_below (by (with_reducible repeat (first | apply Kd.R_alloc | apply Kd.R_drewN | apply Kd.R_drew)); exact (Kd.R_mono (Kd.R_far (p := ⟨gb473, 3, none⟩) (Kd.R_far (p := ⟨gb473, 2, none⟩) (Kd.R_far (p := ⟨gb473, 1, none⟩) (Kd.R_far (p := ⟨gb473, 0, none⟩) (Kd.R_mono HO460.out (fun k_ hk => (⟨hk, hk.2⟩ : _ ∧ k_ ≠ gb473))) (fun _ hk => hk.2) (.int .i64 t468)) (fun _ hk => hk.2) (.int .i64 t469)) (fun _ hk => hk.2) (.int .i64 t470)) (fun _ hk => hk.2) (.int .i64 t471)) (fun _ h_ => h_.1))) hb); replace HO465 := Aside0.mk (Kd.R_below (by (with_reducible repeat (first | apply Kd.R_alloc | apply Kd.R_drewN | apply Kd.R_drew)); exact (Kd.R_mono (Kd.R_far (p := ⟨gb473, 3, none⟩) (Kd.R_far (p := ⟨gb473, 2, none⟩) (Kd.R_far (p := ⟨gb473, 1, none⟩) (Kd.R_far (p := ⟨gb473, 0, none⟩) (Kd.R_mono HO465.out (fun k_ hk => (⟨hk, hk.2⟩ : _ ∧ k_ ≠ gb473))) (fun _ hk => hk.2) (.int .i64 t468)) (fun _ hk => hk.2) (.int .i64 t469)) (fun _ hk => hk.2) (.int .i64 t470)) (fun _ hk => hk.2) (.int .i64 t471)) (fun _ h_ => h_.1))) hb); replace BK453 := Aside0.mk (blk_keepA BK453.out hb); replace BK454 := Aside0.mk (blk_keepA BK454.out hb); replace BK455 := Aside0.mk (blk_keepA BK455.out hb); replace BK473 := Aside0.mk (blk_below (g := gb473) (o := .cells #[.int .i64 t468, .int .i64 t469, .int .i64 t470, .int .i64 t471] 37 (0, 0)) (blk_move BK473.out) hb); replace HB := Aside0.mk (below_stepA hb); (try clear hb)) | ((with_reducible refine gate_dst (N := 20) rfl ?_); refine box_event ?hg (N := 20) ?hd (cs := #[.int .i64 0, .int .i64 0, .int .i64 0, .int .i64 0]) (t := 37) ?hr ?_; (case hd => rfl); (case hg => rfl); (case hr => first | (go_simp; done) | (go_simp; rfl)); intro gb479 hg w42 hbox hb; have BK479 := Aside0.mk (hbox); have GW479 := Aside0.mk ((by rw [hg]; exact below_sizeA : w.heap.size ≤ gb479)); have GE479 := GW479; have NB453_479 := Aside0.mk ((by rw [hg]; exact Nat.ne_of_lt (blk_ltKA BK453.out) : gb453 ≠ gb479)); have NB479_453 := Aside0.mk NB453_479.out.symm; have NB454_479 := Aside0.mk ((by rw [hg]; exact Nat.ne_of_lt (blk_ltKA BK454.out) : gb454 ≠ gb479)); have NB479_454 := Aside0.mk NB454_479.out.symm; have NB455_479 := Aside0.mk ((by rw [hg]; exact Nat.ne_of_lt (blk_ltKA BK455.out) : gb455 ≠ gb479)); have NB479_455 := Aside0.mk NB455_479.out.symm; have NB473_479 := Aside0.mk ((by rw [hg]; exact Nat.ne_of_lt (blk_ltKA BK473.out) : gb473 ≠ gb479)); have NB479_473 := Aside0.mk NB473_479.out.symm; replace HO460 := Aside0.mk (Kd.R_below (Kd.R_elderB (by (with_reducible repeat (first | apply Kd.R_alloc | apply Kd.R_drewN | apply Kd.R_drew)); exact HO460.out) gb479 (Nat.le_of_eq hg.symm)) hb); replace HO465 := Aside0.mk (Kd.R_below (Kd.R_elderB (by (with_reducible repeat (first | apply Kd.R_alloc | apply Kd.R_drewN | apply Kd.R_drew)); exact HO465.out) gb479 (Nat.le_of_eq hg.symm)) hb); replace BK453 := Aside0.mk (blk_keepA BK453.out hb); replace BK454 := Aside0.mk (blk_keepA BK454.out hb); replace BK455 := Aside0.mk (blk_keepA BK455.out hb); replace BK473 := Aside0.mk (blk_keepA BK473.out hb); replace HB := Aside0.mk (below_stepA hb); clear hb hbox hg; have hnb43 := NB479_453.out; have hnc43 := NB453_479.out; have hnb44 := NB479_454.out; have hnc44 := NB454_479.out; have hnb45 := NB479_455.out; have hnc45 := NB455_479.out; have hnb46 := NB479_473.out; have hnc46 := NB473_479.out; have hz47 := blk4 BK479.out; have hz48 := blk16 BK455.out) | ((with_reducible refine gate_callee (f := 17) rfl ?_); refine goesL_ (some 59) rfl rfl Try.func17 (by kernel_rfl) rfl #[.agg (B44 a2_0 A2_1 l2_1 c2_1 a2_2 a2_3 A2_4 l2_4 c2_4 a2_5 a2_6 a2_7 A2_8 l2_8 c2_8 A2_9 l2_9 c2_9 a2_10 a2_11 a2_12 A2_13 l2_13 c2_13 A2_14 l2_14 c2_14 A2_15 l2_15 c2_15)] rfl mapA ?_; (with_reducible refine (bounds_Own.calls a2_0 _ _ l2_1 a2_2 a2_3 _ _ l2_4 a2_5 a2_6 a2_7 _ _ l2_8 _ _ l2_9 a2_10 a2_11 a2_12 _ _ l2_13 _ _ l2_14 _ _ l2_15 t480 t481 _ (c_belowB HR2_1.out) HC2_1.out (c_belowB HR2_4.out) HC2_4.out (c_belowB HR2_8.out) HC2_8.out (c_belowB HR2_9.out) HC2_9.out (c_belowB HR2_13.out) HC2_13.out (c_belowB HR2_14.out) HC2_14.out (c_belowB HR2_15.out) HC2_15.out A13.out).mono ?_); rintro e w49 ⟨rfl, hb⟩; refine ⟨_, rfl, ?_⟩; replace HO460 := Aside0.mk (Kd.R_below (by (with_reducible repeat (first | apply Kd.R_alloc | apply Kd.R_drewN | apply Kd.R_drew)); exact (Kd.R_mono (Kd.R_far (p := ⟨gb479, 3, none⟩) (Kd.R_far (p := ⟨gb479, 2, none⟩) (Kd.R_far (p := ⟨gb479, 1, none⟩) (Kd.R_far (p := ⟨gb479, 0, none⟩) (Kd.R_mono HO460.out (fun k_ hk => (⟨hk, hk.2⟩ : _ ∧ k_ ≠ gb479))) (fun _ hk => hk.2) (.int .i64 t474)) (fun _ hk => hk.2) (.int .i64 t475)) (fun _ hk => hk.2) (.int .i64 t476)) (fun _ hk => hk.2) (.int .i64 t477)) (fun _ h_ => h_.1))) hb); replace HO465 := Aside0.mk (Kd.R_below (by (with_reducible repeat (first | apply Kd.R_alloc | apply Kd.R_drewN | apply Kd.R_drew)); exact (Kd.R_mono (Kd.R_far (p := ⟨gb479, 3, none⟩) (Kd.R_far (p := ⟨gb479, 2, none⟩) (Kd.R_far (p := ⟨gb479, 1, none⟩) (Kd.R_far (p := ⟨gb479, 0, none⟩) (Kd.R_mono HO465.out (fun k_ hk => (⟨hk, hk.2⟩ : _ ∧ k_ ≠ gb479))) (fun _ hk => hk.2) (.int .i64 t474)) (fun _ hk => hk.2) (.int .i64 t475)) (fun _ hk => hk.2) (.int .i64 t476)) (fun _ hk => hk.2) (.int .i64 t477)) (fun _ h_ => h_.1))) hb); replace BK453 := Aside0.mk (blk_keepA BK453.out hb); replace BK454 := Aside0.mk (blk_keepA BK454.out hb); replace BK455 := Aside0.mk (blk_keepA BK455.out hb); replace BK473 := Aside0.mk (blk_keepA BK473.out hb); replace BK479 := Aside0.mk (blk_below (g := gb479) (o := .cells #[.int .i64 t474, .int .i64 t475, .int .i64 t476, .int .i64 t477] 37 (0, 0)) (blk_move BK479.out) hb); replace HB := Aside0.mk (below_stepA hb); (try clear hb); have hz50 := blk16 BK455.out) | ((with_reducible refine gate_callee (f := 18) rfl ?_); refine goesL_ (some 64) rfl rfl Try.func18 (by kernel_rfl) rfl #[.agg (B44 a2_0 A2_1 l2_1 c2_1 a2_2 a2_3 A2_4 l2_4 c2_4 a2_5 a2_6 a2_7 A2_8 l2_8 c2_8 A2_9 l2_9 c2_9 a2_10 a2_11 a2_12 A2_13 l2_13 c2_13 A2_14 l2_14 c2_14 A2_15 l2_15 c2_15)] rfl mapA ?_; (with_reducible refine (errataref20_Own.calls a2_0 _ _ l2_1 a2_2 a2_3 _ _ l2_4 a2_5 a2_6 a2_7 _ _ l2_8 _ _ l2_9 a2_10 a2_11 a2_12 _ _ l2_13 _ _ l2_14 _ _ l2_15 t482 t483 _ (c_belowA HR2_1.out) HC2_1.out (c_belowA HR2_4.out) HC2_4.out (c_belowA HR2_8.out) HC2_8.out (c_belowA HR2_9.out) HC2_9.out (c_belowA HR2_13.out) HC2_13.out (c_belowA HR2_14.out) HC2_14.out (c_belowA HR2_15.out) HC2_15.out A14.out).mono ?_); rintro e w51 ⟨rfl, hb⟩; refine ⟨_, rfl, ?_⟩; replace HO460 := Aside0.mk (Kd.R_below (by (with_reducible repeat (first | apply Kd.R_alloc | apply Kd.R_drewN | apply Kd.R_drew)); exact HO460.out) hb); replace HO465 := Aside0.mk (Kd.R_below (by (with_reducible repeat (first | apply Kd.R_alloc | apply Kd.R_drewN | apply Kd.R_drew)); exact HO465.out) hb); replace BK453 := Aside0.mk (blk_keepA BK453.out hb); replace BK454 := Aside0.mk (blk_keepA BK454.out hb); replace BK455 := Aside0.mk (blk_keepA BK455.out hb); replace BK473 := Aside0.mk (blk_keepA BK473.out hb); replace BK479 := Aside0.mk (blk_keepA BK479.out hb); replace HB := Aside0.mk (below_stepA hb); (try clear hb)))
  (try simp only [Act.put, List.setIfInBounds_toArray, List.set_cons_zero, List.set_cons_succ])
  go_cut [100] (fun v100 wc => ∃ (kq : Nat) (x100_14 : Bool), v100 = .bool x100_14 ∧ Aside0 (erratalaw20_BoundsTells.j0 kq a3 a4 t456 x100_14 l0_0 l0_1 a1_0 a1_1 a1_2 a1_3 a1_4 a1_5 a2_0 l2_1 a2_2 a2_3 l2_4 a2_5 a2_6 a2_7 l2_8 l2_9 a2_10 a2_11 a2_12 l2_13 l2_14 l2_15 = some true) ∧ Aside0 (kq ≤ k) ∧ Aside0 (wc.heap[gb453]? = some (.cells #[(.slice A0_0 l0_0.length c0_0), (.slice A0_1 l0_1.length c0_1)] 25 (0, 0))) ∧ Aside0 (wc.heap[gb454]? = some (.cells #[.int .i64 a1_0, .int .i64 a1_1, .int .i64 a1_2, .int .i64 a1_3, .int .i64 a1_4, .int .i64 a1_5] 27 (0, 0))) ∧ Aside0 (wc.heap[gb455]? = some (.cells #[.int .i64 a2_0, (.slice A2_1 l2_1.length c2_1), .string a2_2, .int .i64 a2_3, (.slice A2_4 l2_4.length c2_4), .int .i64 a2_5, .int .i64 a2_6, .int .i64 a2_7, (.slice A2_8 l2_8.length c2_8), (.slice A2_9 l2_9.length c2_9), .int .i64 a2_10, .int .i64 a2_11, .int .i64 a2_12, (.slice A2_13 l2_13.length c2_13), (.slice A2_14 l2_14.length c2_14), (.slice A2_15 l2_15.length c2_15)] 44 (0, 0))) ∧ Aside0 (wc.heap[gb473]? = some (.cells #[.int .i64 t468, .int .i64 t469, .int .i64 t470, .int .i64 t471] 37 (0, 0))) ∧ Aside0 (wc.heap[gb479]? = some (.cells #[.int .i64 t474, .int .i64 t475, .int .i64 t476, .int .i64 t477] 37 (0, 0))) ∧ Aside0 (Below w.heap.size w wc))
  case first =>
   have H := HC15.out
   clear HC15
   replace H := Option.bind_eq_some_iff.mp H
   obtain ⟨t484, A520, H⟩ := H
   try dsimp only at H
   have A52 := Aside0.mk A520
   clear A520
   by_cases c53 : t484 = true
   ·
    subst c53
    rw [if_pos rfl] at H
    by_cases c54 : t461 = t466
    ·
     rw [if_pos c54] at H
     have c54b0 : (t461 == t466) = true := beq_iff_eq.mpr c54
     have c54b1 : (t461 != t466) = false := bne_eq_false_iff_eq.mpr c54
     clear c54
     (first | rw [c54b0] | (simp only [i64_w, i32_w]; rw [c54b0]) | skip)
     by_cases c55 : t462 = t467
     ·
      rw [if_pos c55] at H
      have c55b0 : (t462 == t467) = true := beq_iff_eq.mpr c55
      have c55b1 : (t462 != t467) = false := bne_eq_false_iff_eq.mpr c55
      clear c55
      by_cases c56 : (!(t468 == t474) || (!(t469 == t475) || (!(t470 == t476) || (!(t471 == t477))))) = true
      ·
       rw [if_pos c56] at H
       have c56b0 : (!(t468 == t474) || (!(t469 == t475) || (!(t470 == t476) || (!(t471 == t477))))) = true := c56
       clear c56
       exact absurd H (by cases k <;> simp [erratalaw20_BoundsTells.j0])
      ·
       rw [if_neg c56] at H
       have c56b0 : (!(t468 == t474) || (!(t469 == t475) || (!(t470 == t476) || (!(t471 == t477))))) = false := by simpa using c56
       clear c56
       by_cases c57 : t472 = t478
       ·
        rw [if_pos c57] at H
        have c57b0 : (t472 == t478) = true := beq_iff_eq.mpr c57
        have c57b1 : (t472 != t478) = false := bne_eq_false_iff_eq.mpr c57
        clear c57
        by_cases c58 : t480 = t482
        ·
         rw [if_pos c58] at H
         have c58b0 : (t480 == t482) = true := beq_iff_eq.mpr c58
         have c58b1 : (t480 != t482) = false := bne_eq_false_iff_eq.mpr c58
         clear c58
         have H' := Aside0.mk H
         clear H
         obtain ⟨Ao59, co59, eo59⟩ := Kd.R_slice HO460.out
         subst eo59
         obtain ⟨Ao60, co60, eo60⟩ := Kd.R_slice HO465.out
         subst eo60
         go_wp2_with (first | ((with_reducible refine gate_callee (f := 11) rfl ?_); refine goesL_ (some 69) rfl rfl Try.func11 (by kernel_rfl) rfl #[.slice Ao59 t458.length co59, .slice Ao60 t463.length co60] rfl mapA ?_; (with_reducible refine (errataref20_Same.calls k _ _ t458 _ _ t463 true _ ?side1 ?side2 ?side3 ?side4 A52.out).mono ?_); (case side1 => repeat (first | exact (Kd.R_reads' HO460.out).2.2 | (with_reducible refine Kd.C_alloc ?_ _) | (with_reducible refine Kd.C_drewN ?_ _) | (with_reducible refine Kd.C_drew ?_))); (case side2 => exact (Kd.R_reads' HO460.out).2.1); (case side3 => repeat (first | exact (Kd.R_reads' HO465.out).2.2 | (with_reducible refine Kd.C_alloc ?_ _) | (with_reducible refine Kd.C_drewN ?_ _) | (with_reducible refine Kd.C_drew ?_))); (case side4 => exact (Kd.R_reads' HO465.out).2.1); rintro e w' ⟨rfl, ⟨nd, rfl⟩⟩; refine ⟨_, rfl, ?_⟩; have hnb61 := NB473_453.out; have hnc61 := NB453_473.out; have hnb62 := NB473_454.out; have hnc62 := NB454_473.out; have hnb63 := NB473_455.out; have hnc63 := NB455_473.out; have hnb64 := NB473_479.out; have hnc64 := NB479_473.out; have hz65 := blk4 BK473.out; have hnb66 := NB479_453.out; have hnc66 := NB453_479.out; have hnb67 := NB479_454.out; have hnc67 := NB454_479.out; have hnb68 := NB479_455.out; have hnc68 := NB455_479.out; have hz69 := blk4 BK479.out))
         go_meet
         case rel => exact ⟨_, ((t481 != t483)), (by first | rfl | (simp; done) | (simp [*]; done)), H', ⟨by first | omega | exact Nat.le_refl _⟩, ⟨blk_move BK453.out⟩, ⟨blk_move BK454.out⟩, ⟨blk_move BK455.out⟩, ⟨blk_move BK473.out⟩, ⟨blk_move BK479.out⟩, ⟨by repeat (first | (with_reducible first | exact HB.out | apply below_alloc | apply pw_below_drewN | apply below_drew1 | refine below_set ?_ GE453.out | refine below_set ?_ GE454.out | refine below_set ?_ GE455.out | refine below_set ?_ GE473.out | refine below_set ?_ GE479.out) | exact HB.out)⟩⟩
        ·
         rw [if_neg c58] at H
         have c58b0 : (t480 == t482) = false := beq_eq_false_iff_ne.mpr c58
         have c58b1 : (t480 != t482) = true := bne_iff_ne.mpr c58
         exact absurd H (by cases k <;> simp [erratalaw20_BoundsTells.j0])
       ·
        rw [if_neg c57] at H
        have c57b0 : (t472 == t478) = false := beq_eq_false_iff_ne.mpr c57
        have c57b1 : (t472 != t478) = true := bne_iff_ne.mpr c57
        exact absurd H (by cases k <;> simp [erratalaw20_BoundsTells.j0])
     ·
      rw [if_neg c55] at H
      have c55b0 : (t462 == t467) = false := beq_eq_false_iff_ne.mpr c55
      have c55b1 : (t462 != t467) = true := bne_iff_ne.mpr c55
      exact absurd H (by cases k <;> simp [erratalaw20_BoundsTells.j0])
    ·
     rw [if_neg c54] at H
     have c54b0 : (t461 == t466) = false := beq_eq_false_iff_ne.mpr c54
     have c54b1 : (t461 != t466) = true := bne_iff_ne.mpr c54
     (first | rw [c54b0] | (simp only [i64_w, i32_w]; rw [c54b0]) | skip)
     exact absurd H (by cases k <;> simp [erratalaw20_BoundsTells.j0])
   ·
    replace c53 := Bool.eq_false_iff.mpr c53
    subst c53
    rw [if_neg (show ¬ (false = true) by decide)] at H
    exact absurd H (by cases k <;> simp [erratalaw20_BoundsTells.j0])
  case rest =>
   clear HC15
   try clear c1
   try clear c2
   try clear p2
   try clear c3
   try clear c4
   try clear c5
   try clear c6
   try clear c7
   try clear c8
   try clear c9
   try clear c11
   try clear c14
   try clear c15
   try clear c16
   try clear c17
   try clear c18
   try clear c20
   try clear c21
   try clear c25
   try clear c35
   try clear c36
   try clear c37
   try clear c43
   try clear c44
   try clear c45
   try clear c46
   try clear c53
   try clear c54
   try clear c54b0
   try clear c54b1
   try clear c55
   try clear c55b0
   try clear c55b1
   try clear c56
   try clear c56b0
   try clear c57
   try clear c57b0
   try clear c57b1
   try clear c58
   try clear c58b0
   try clear c58b1
   try clear c61
   try clear c62
   try clear c63
   try clear c64
   try clear c66
   try clear c67
   try clear c68
   try clear hz22
   try clear hz24
   try clear hz26
   try clear hz28
   try clear hz29
   try clear hz31
   try clear hz32
   try clear hz38
   try clear hz39
   try clear hz40
   try clear hz47
   try clear hz48
   try clear hz50
   try clear hz65
   try clear hz69
   obtain ⟨kq, x100_14, rfl, HA, HJ14, BK453, BK454, BK455, BK473, BK479, HB⟩ := hcut
   cases kq with
   | zero => exact absurd HA.out (by simp [erratalaw20_BoundsTells.j0])
   | succ kj14 =>
    have H := HA.out
    clear HA
    simp only [erratalaw20_BoundsTells.j0] at H
    by_cases c70 : x100_14 = true
    ·
     subst c70
     rw [if_pos rfl] at H
     cases H
    ·
     replace c70 := Bool.eq_false_iff.mpr c70
     subst c70
     rw [if_neg (show ¬ (false = true) by decide)] at H
     by_cases c71 : t456 = true
     ·
      subst c71
      rw [if_pos rfl] at H
      replace H := Option.bind_eq_some_iff.mp H
      obtain ⟨t485, A720, H⟩ := H
      try dsimp only at H
      have A72 := Aside0.mk A720
      clear A720
      replace H := Option.bind_eq_some_iff.mp H
      obtain ⟨t486, A730, H⟩ := H
      try dsimp only at H
      have A73 := Aside0.mk A730
      clear A730
      by_cases c74 : (t485 == t486) = true
      ·
       rw [if_pos c74] at H
       have c74b0 : (t485 == t486) = true := c74
       (try (have c74b1 : decide (t485 = t486) = true := by simpa using c74))
       (try (have c74b2 : (t485 == t486) = true := by simpa using c74))
       clear c74
       replace H := Option.bind_eq_some_iff.mp H
       obtain ⟨t487, A750, H⟩ := H
       try dsimp only at H
       have A75 := Aside0.mk A750
       clear A750
       replace H := Option.bind_eq_some_iff.mp H
       obtain ⟨t488, A760, H⟩ := H
       try dsimp only at H
       have A76 := Aside0.mk A760
       clear A760
       by_cases c77 : (t487 == t488) = true
       ·
        rw [if_pos c77] at H
        have c77b0 : (t487 == t488) = true := c77
        (try (have c77b1 : decide (t487 = t488) = true := by simpa using c77))
        (try (have c77b2 : (t487 == t488) = true := by simpa using c77))
        clear c77
        replace H := Option.bind_eq_some_iff.mp H
        obtain ⟨t489, A780, H⟩ := H
        try dsimp only at H
        have A78 := Aside0.mk A780
        clear A780
        replace H := Option.bind_eq_some_iff.mp H
        obtain ⟨t490, A790, H⟩ := H
        try dsimp only at H
        have A79 := Aside0.mk A790
        clear A790
        by_cases c80 : (t489 == t490) = true
        ·
         rw [if_pos c80] at H
         have c80b0 : (t489 == t490) = true := c80
         (try (have c80b1 : decide (t489 = t490) = true := by simpa using c80))
         (try (have c80b2 : (t489 == t490) = true := by simpa using c80))
         clear c80
         replace H := Option.bind_eq_some_iff.mp H
         obtain ⟨t491, A810, H⟩ := H
         try dsimp only at H
         have A81 := Aside0.mk A810
         clear A810
         replace H := Option.bind_eq_some_iff.mp H
         obtain ⟨t494, A820, H⟩ := H
         try dsimp only at H
         have A82 := Aside0.mk A820
         clear A820
         replace H := Option.bind_eq_some_iff.mp H
         obtain ⟨t497, A830, H⟩ := H
         try dsimp only at H
         have A83 := Aside0.mk A830
         clear A830
         obtain rfl := Option.some.inj H
         try go_wp2
         have n0_ := Aside0.mk (blk_drew BK453.out)
         have n1_ := Aside0.mk (blk_drew BK454.out)
         have n2_ := Aside0.mk (blk_drew BK455.out)
         have n3_ := Aside0.mk (blk_drew BK473.out)
         have n4_ := Aside0.mk (blk_drew BK479.out)
         have n5_ := Aside0.mk (below_drew1 HB.out)
         clear BK453
         clear BK454
         clear BK455
         clear BK473
         clear BK479
         clear HB
         have BK453 := n0_
         have BK454 := n1_
         have BK455 := n2_
         have BK473 := n3_
         have BK479 := n4_
         have HB := n5_
         clear n0_ n1_ n2_ n3_ n4_ n5_
         refine start_ (n := 34) (S := fun w' => w'.cell? ⟨gb454, 0, none⟩ = some (.int .i64 a1_0) ∧ w'.cell? ⟨gb454, 1, none⟩ = some (.int .i64 a1_1) ∧ w'.cell? ⟨gb454, 2, none⟩ = some (.int .i64 a1_2) ∧ w'.cell? ⟨gb454, 3, none⟩ = some (.int .i64 a1_3) ∧ w'.cell? ⟨gb454, 4, none⟩ = some (.int .i64 a1_4) ∧ w'.cell? ⟨gb454, 5, none⟩ = some (.int .i64 a1_5) ∧ w'.cell? ⟨gb453, 0, none⟩ = some (.slice A0_0 l0_0.length c0_0) ∧ w'.cell? ⟨gb453, 1, none⟩ = some (.slice A0_1 l0_1.length c0_1) ∧ w'.cell? ⟨gb455, 0, none⟩ = some (.int .i64 a2_0) ∧ w'.cell? ⟨gb455, 1, none⟩ = some (.slice A2_1 l2_1.length c2_1) ∧ w'.cell? ⟨gb455, 2, none⟩ = some (.string a2_2) ∧ w'.cell? ⟨gb455, 3, none⟩ = some (.int .i64 a2_3) ∧ w'.cell? ⟨gb455, 4, none⟩ = some (.slice A2_4 l2_4.length c2_4) ∧ w'.cell? ⟨gb455, 5, none⟩ = some (.int .i64 a2_5) ∧ w'.cell? ⟨gb455, 6, none⟩ = some (.int .i64 a2_6) ∧ w'.cell? ⟨gb455, 7, none⟩ = some (.int .i64 a2_7) ∧ w'.cell? ⟨gb455, 8, none⟩ = some (.slice A2_8 l2_8.length c2_8) ∧ w'.cell? ⟨gb455, 9, none⟩ = some (.slice A2_9 l2_9.length c2_9) ∧ w'.cell? ⟨gb455, 10, none⟩ = some (.int .i64 a2_10) ∧ w'.cell? ⟨gb455, 11, none⟩ = some (.int .i64 a2_11) ∧ w'.cell? ⟨gb455, 12, none⟩ = some (.int .i64 a2_12) ∧ w'.cell? ⟨gb455, 13, none⟩ = some (.slice A2_13 l2_13.length c2_13) ∧ w'.cell? ⟨gb455, 14, none⟩ = some (.slice A2_14 l2_14.length c2_14) ∧ w'.cell? ⟨gb455, 15, none⟩ = some (.slice A2_15 l2_15.length c2_15)) (ds := []) #[O,O,O,O,O,O,O,O,O,O,O,O,O,O,O,O,O,O,O,O,O,O,O,O,O,O,O,O,O,O,O,O,O,O] (by kernel_rfl) rfl rfl ⟨(blk_cell BK454.out 0).trans rfl, (blk_cell BK454.out 1).trans rfl, (blk_cell BK454.out 2).trans rfl, (blk_cell BK454.out 3).trans rfl, (blk_cell BK454.out 4).trans rfl, (blk_cell BK454.out 5).trans rfl, (blk_cell BK453.out 0).trans rfl, (blk_cell BK453.out 1).trans rfl, (blk_cell BK455.out 0).trans rfl, (blk_cell BK455.out 1).trans rfl, (blk_cell BK455.out 2).trans rfl, (blk_cell BK455.out 3).trans rfl, (blk_cell BK455.out 4).trans rfl, (blk_cell BK455.out 5).trans rfl, (blk_cell BK455.out 6).trans rfl, (blk_cell BK455.out 7).trans rfl, (blk_cell BK455.out 8).trans rfl, (blk_cell BK455.out 9).trans rfl, (blk_cell BK455.out 10).trans rfl, (blk_cell BK455.out 11).trans rfl, (blk_cell BK455.out 12).trans rfl, (blk_cell BK455.out 13).trans rfl, (blk_cell BK455.out 14).trans rfl, (blk_cell BK455.out 15).trans rfl⟩ (fun hHeld => ?_); refine with_tabW erratalaw20_BoundsTells.tab12 erratalaw20_BoundsTells.bits12 (fun HT_ HW_ => ?_)
         generalize wc.drew = w84 at BK453 BK454 BK455 BK473 BK479 HB hHeld ⊢
         refine pureA 0 101 #[J,O,O,O,O,O,O,O,O,O,O,O,O,O,O,O,O,O,O,O,O,O,O,O,O,O,O,O,O,O,O,O,O,O] ?_
         refine pureA 1 102 #[J,J,O,O,O,O,O,O,O,O,O,O,O,O,O,O,O,O,O,O,O,O,O,O,O,O,O,O,O,O,O,O,O,O] ?_
         refine takeA 2 103 #[J,J,J,O,O,O,O,O,O,O,O,O,O,O,O,O,O,O,O,O,O,O,O,O,O,O,O,O,O,O,O,O,O,O] ?_
         refine takeA 4 105 #[J,J,J,O,J,O,O,O,O,O,O,O,O,O,O,O,O,O,O,O,O,O,O,O,O,O,O,O,O,O,O,O,O,O] ?_
         refine one_ (i := 3) (N := some 104) #[J,J,J,J,J,O,O,O,O,O,O,O,O,O,O,O,O,O,O,O,O,O,O,O,O,O,O,O,O,O,O,O,O,O] rfl rfl (one_of HT_.out (by kernel_rfl)) (by decide) (fun K hK => ?_)
         refine goes_ Try.func19 (by kernel_rfl) rfl #[.agg #[.int .i64 a1_0, .int .i64 a1_1, .int .i64 a1_2, .int .i64 a1_3, .int .i64 a1_4, .int .i64 a1_5]] (by rfl) rfl rfl mapA ?_
         with_reducible refine (bounds_RightConfig.calls a1_0 a1_1 a1_2 a1_3 a1_4 a1_5 t485 _ A72.out).mono ?_
         rintro e w85 ⟨rfl, hb⟩
         refine ⟨_, rfl, ?_⟩
         have n0_ := Aside0.mk (blk_keepA BK453.out hb)
         have n1_ := Aside0.mk (blk_keepA BK454.out hb)
         have n2_ := Aside0.mk (blk_keepA BK455.out hb)
         have n3_ := Aside0.mk (blk_keepA BK473.out hb)
         have n4_ := Aside0.mk (blk_keepA BK479.out hb)
         have n5_ := Aside0.mk (below_stepA hb)
         clear BK453
         clear BK454
         clear BK455
         clear BK473
         clear BK479
         clear HB
         have BK453 := n0_
         have BK454 := n1_
         have BK455 := n2_
         have BK473 := n3_
         have BK479 := n4_
         have HB := n5_
         clear n0_ n1_ n2_ n3_ n4_ n5_
         (try clear hb)
         (try clear hb2)
         (try clear hk)
         (try clear hi)
         refine hK.out _ _ ⟨(blk_cell BK454.out 0).trans rfl, (blk_cell BK454.out 1).trans rfl, (blk_cell BK454.out 2).trans rfl, (blk_cell BK454.out 3).trans rfl, (blk_cell BK454.out 4).trans rfl, (blk_cell BK454.out 5).trans rfl, (blk_cell BK453.out 0).trans rfl, (blk_cell BK453.out 1).trans rfl, (blk_cell BK455.out 0).trans rfl, (blk_cell BK455.out 1).trans rfl, (blk_cell BK455.out 2).trans rfl, (blk_cell BK455.out 3).trans rfl, (blk_cell BK455.out 4).trans rfl, (blk_cell BK455.out 5).trans rfl, (blk_cell BK455.out 6).trans rfl, (blk_cell BK455.out 7).trans rfl, (blk_cell BK455.out 8).trans rfl, (blk_cell BK455.out 9).trans rfl, (blk_cell BK455.out 10).trans rfl, (blk_cell BK455.out 11).trans rfl, (blk_cell BK455.out 12).trans rfl, (blk_cell BK455.out 13).trans rfl, (blk_cell BK455.out 14).trans rfl, (blk_cell BK455.out 15).trans rfl⟩ (fun hHeld => ?_)
         clear hK K
         refine norm_ (a' := ?_) ?_ ?_
         rotate_left
         ·
          show Act.put _ (some 104) _ = _
          simp only [Act.put, List.setIfInBounds_toArray, List.set_cons_zero, List.set_cons_succ, i64_w, i32_w]
          rfl
         refine one_ (i := 5) (N := some 106) #[J,J,J,J,J,J,O,O,O,O,O,O,O,O,O,O,O,O,O,O,O,O,O,O,O,O,O,O,O,O,O,O,O,O] rfl rfl (one_of HT_.out (by kernel_rfl)) (by decide) (fun K hK => ?_)
         refine goes_ Try.func20 (by kernel_rfl) rfl #[.agg #[.int .i64 a1_0, .int .i64 a1_1, .int .i64 a1_2, .int .i64 a1_3, .int .i64 a1_4, .int .i64 a1_5]] (by rfl) rfl rfl mapA ?_
         with_reducible refine (errataref20_RightConfig.calls a1_0 a1_1 a1_2 a1_3 a1_4 a1_5 t486 _ A73.out).mono ?_
         rintro e w86 ⟨rfl, hb⟩
         refine ⟨_, rfl, ?_⟩
         have n0_ := Aside0.mk (blk_keepA BK453.out hb)
         have n1_ := Aside0.mk (blk_keepA BK454.out hb)
         have n2_ := Aside0.mk (blk_keepA BK455.out hb)
         have n3_ := Aside0.mk (blk_keepA BK473.out hb)
         have n4_ := Aside0.mk (blk_keepA BK479.out hb)
         have n5_ := Aside0.mk (below_stepA hb)
         clear BK453
         clear BK454
         clear BK455
         clear BK473
         clear BK479
         clear HB
         have BK453 := n0_
         have BK454 := n1_
         have BK455 := n2_
         have BK473 := n3_
         have BK479 := n4_
         have HB := n5_
         clear n0_ n1_ n2_ n3_ n4_ n5_
         (try clear hb)
         (try clear hb2)
         (try clear hk)
         (try clear hi)
         refine hK.out _ _ ⟨(blk_cell BK454.out 0).trans rfl, (blk_cell BK454.out 1).trans rfl, (blk_cell BK454.out 2).trans rfl, (blk_cell BK454.out 3).trans rfl, (blk_cell BK454.out 4).trans rfl, (blk_cell BK454.out 5).trans rfl, (blk_cell BK453.out 0).trans rfl, (blk_cell BK453.out 1).trans rfl, (blk_cell BK455.out 0).trans rfl, (blk_cell BK455.out 1).trans rfl, (blk_cell BK455.out 2).trans rfl, (blk_cell BK455.out 3).trans rfl, (blk_cell BK455.out 4).trans rfl, (blk_cell BK455.out 5).trans rfl, (blk_cell BK455.out 6).trans rfl, (blk_cell BK455.out 7).trans rfl, (blk_cell BK455.out 8).trans rfl, (blk_cell BK455.out 9).trans rfl, (blk_cell BK455.out 10).trans rfl, (blk_cell BK455.out 11).trans rfl, (blk_cell BK455.out 12).trans rfl, (blk_cell BK455.out 13).trans rfl, (blk_cell BK455.out 14).trans rfl, (blk_cell BK455.out 15).trans rfl⟩ (fun hHeld => ?_)
         clear hK K
         refine norm_ (a' := ?_) ?_ ?_
         rotate_left
         ·
          show Act.put _ (some 106) _ = _
          simp only [Act.put, List.setIfInBounds_toArray, List.set_cons_zero, List.set_cons_succ, i64_w, i32_w]
          rfl
         refine pureA 6 107 #[J,J,J,J,J,J,J,O,O,O,O,O,O,O,O,O,O,O,O,O,O,O,O,O,O,O,O,O,O,O,O,O,O,O] ?_
         refine pureA 7 108 #[J,J,J,J,J,J,J,J,O,O,O,O,O,O,O,O,O,O,O,O,O,O,O,O,O,O,O,O,O,O,O,O,O,O] ?_
         refine pureA 8 109 #[J,J,J,J,J,J,J,J,J,O,O,O,O,O,O,O,O,O,O,O,O,O,O,O,O,O,O,O,O,O,O,O,O,O] ?_
         refine takeA 9 110 #[J,J,J,J,J,J,J,J,J,J,O,O,O,O,O,O,O,O,O,O,O,O,O,O,O,O,O,O,O,O,O,O,O,O] ?_
         refine takeA 11 112 #[J,J,J,J,J,J,J,J,J,J,O,J,O,O,O,O,O,O,O,O,O,O,O,O,O,O,O,O,O,O,O,O,O,O] ?_
         refine one_ (i := 10) (N := some 111) #[J,J,J,J,J,J,J,J,J,J,J,J,O,O,O,O,O,O,O,O,O,O,O,O,O,O,O,O,O,O,O,O,O,O] rfl rfl (one_of HT_.out (by kernel_rfl)) (by decide) (fun K hK => ?_)
         refine goes_ Try.func21 (by kernel_rfl) rfl #[.agg #[.slice A0_0 l0_0.length c0_0, .slice A0_1 l0_1.length c0_1]] (by rfl) rfl rfl mapA ?_
         with_reducible refine (bounds_Well.calls kj14 _ _ l0_0 _ _ l0_1 t487 _ ?side1 ?side2 ?side3 ?side4 A75.out).mono ?_
         (case side1 => exact c_belowA HR0_0.out)
         (case side2 => exact HC0_0.out)
         (case side3 => exact c_belowA HR0_1.out)
         (case side4 => exact HC0_1.out)
         rintro e w87 ⟨rfl, hb⟩
         refine ⟨_, rfl, ?_⟩
         have n0_ := Aside0.mk (blk_keepA BK453.out hb)
         have n1_ := Aside0.mk (blk_keepA BK454.out hb)
         have n2_ := Aside0.mk (blk_keepA BK455.out hb)
         have n3_ := Aside0.mk (blk_keepA BK473.out hb)
         have n4_ := Aside0.mk (blk_keepA BK479.out hb)
         have n5_ := Aside0.mk (below_stepA hb)
         clear BK453
         clear BK454
         clear BK455
         clear BK473
         clear BK479
         clear HB
         have BK453 := n0_
         have BK454 := n1_
         have BK455 := n2_
         have BK473 := n3_
         have BK479 := n4_
         have HB := n5_
         clear n0_ n1_ n2_ n3_ n4_ n5_
         (try clear hb)
         (try clear hb2)
         (try clear hk)
         (try clear hi)
         refine hK.out _ _ ⟨(blk_cell BK454.out 0).trans rfl, (blk_cell BK454.out 1).trans rfl, (blk_cell BK454.out 2).trans rfl, (blk_cell BK454.out 3).trans rfl, (blk_cell BK454.out 4).trans rfl, (blk_cell BK454.out 5).trans rfl, (blk_cell BK453.out 0).trans rfl, (blk_cell BK453.out 1).trans rfl, (blk_cell BK455.out 0).trans rfl, (blk_cell BK455.out 1).trans rfl, (blk_cell BK455.out 2).trans rfl, (blk_cell BK455.out 3).trans rfl, (blk_cell BK455.out 4).trans rfl, (blk_cell BK455.out 5).trans rfl, (blk_cell BK455.out 6).trans rfl, (blk_cell BK455.out 7).trans rfl, (blk_cell BK455.out 8).trans rfl, (blk_cell BK455.out 9).trans rfl, (blk_cell BK455.out 10).trans rfl, (blk_cell BK455.out 11).trans rfl, (blk_cell BK455.out 12).trans rfl, (blk_cell BK455.out 13).trans rfl, (blk_cell BK455.out 14).trans rfl, (blk_cell BK455.out 15).trans rfl⟩ (fun hHeld => ?_)
         clear hK K
         refine norm_ (a' := ?_) ?_ ?_
         rotate_left
         ·
          show Act.put _ (some 111) _ = _
          simp only [Act.put, List.setIfInBounds_toArray, List.set_cons_zero, List.set_cons_succ, i64_w, i32_w]
          rfl
         refine one_ (i := 12) (N := some 113) #[J,J,J,J,J,J,J,J,J,J,J,J,J,O,O,O,O,O,O,O,O,O,O,O,O,O,O,O,O,O,O,O,O,O] rfl rfl (one_of HT_.out (by kernel_rfl)) (by decide) (fun K hK => ?_)
         refine goes_ Try.func22 (by kernel_rfl) rfl #[.agg #[.slice A0_0 l0_0.length c0_0, .slice A0_1 l0_1.length c0_1]] (by rfl) rfl rfl mapA ?_
         with_reducible refine (errataref20_Well.calls kj14 _ _ l0_0 _ _ l0_1 t488 _ ?side1 ?side2 ?side3 ?side4 A76.out).mono ?_
         (case side1 => exact c_belowA HR0_0.out)
         (case side2 => exact HC0_0.out)
         (case side3 => exact c_belowA HR0_1.out)
         (case side4 => exact HC0_1.out)
         rintro e w88 ⟨rfl, hb⟩
         refine ⟨_, rfl, ?_⟩
         have n0_ := Aside0.mk (blk_keepA BK453.out hb)
         have n1_ := Aside0.mk (blk_keepA BK454.out hb)
         have n2_ := Aside0.mk (blk_keepA BK455.out hb)
         have n3_ := Aside0.mk (blk_keepA BK473.out hb)
         have n4_ := Aside0.mk (blk_keepA BK479.out hb)
         have n5_ := Aside0.mk (below_stepA hb)
         clear BK453
         clear BK454
         clear BK455
         clear BK473
         clear BK479
         clear HB
         have BK453 := n0_
         have BK454 := n1_
         have BK455 := n2_
         have BK473 := n3_
         have BK479 := n4_
         have HB := n5_
         clear n0_ n1_ n2_ n3_ n4_ n5_
         (try clear hb)
         (try clear hb2)
         (try clear hk)
         (try clear hi)
         refine hK.out _ _ ⟨(blk_cell BK454.out 0).trans rfl, (blk_cell BK454.out 1).trans rfl, (blk_cell BK454.out 2).trans rfl, (blk_cell BK454.out 3).trans rfl, (blk_cell BK454.out 4).trans rfl, (blk_cell BK454.out 5).trans rfl, (blk_cell BK453.out 0).trans rfl, (blk_cell BK453.out 1).trans rfl, (blk_cell BK455.out 0).trans rfl, (blk_cell BK455.out 1).trans rfl, (blk_cell BK455.out 2).trans rfl, (blk_cell BK455.out 3).trans rfl, (blk_cell BK455.out 4).trans rfl, (blk_cell BK455.out 5).trans rfl, (blk_cell BK455.out 6).trans rfl, (blk_cell BK455.out 7).trans rfl, (blk_cell BK455.out 8).trans rfl, (blk_cell BK455.out 9).trans rfl, (blk_cell BK455.out 10).trans rfl, (blk_cell BK455.out 11).trans rfl, (blk_cell BK455.out 12).trans rfl, (blk_cell BK455.out 13).trans rfl, (blk_cell BK455.out 14).trans rfl, (blk_cell BK455.out 15).trans rfl⟩ (fun hHeld => ?_)
         clear hK K
         refine norm_ (a' := ?_) ?_ ?_
         rotate_left
         ·
          show Act.put _ (some 113) _ = _
          simp only [Act.put, List.setIfInBounds_toArray, List.set_cons_zero, List.set_cons_succ, i64_w, i32_w]
          rfl
         refine pureA 13 114 #[J,J,J,J,J,J,J,J,J,J,J,J,J,J,O,O,O,O,O,O,O,O,O,O,O,O,O,O,O,O,O,O,O,O] ?_
         refine pureA 14 115 #[J,J,J,J,J,J,J,J,J,J,J,J,J,J,J,O,O,O,O,O,O,O,O,O,O,O,O,O,O,O,O,O,O,O] ?_
         refine pureA 15 116 #[J,J,J,J,J,J,J,J,J,J,J,J,J,J,J,J,O,O,O,O,O,O,O,O,O,O,O,O,O,O,O,O,O,O] ?_
         refine takeA 16 117 #[J,J,J,J,J,J,J,J,J,J,J,J,J,J,J,J,J,O,O,O,O,O,O,O,O,O,O,O,O,O,O,O,O,O] ?_
         refine takeA 18 119 #[J,J,J,J,J,J,J,J,J,J,J,J,J,J,J,J,J,O,J,O,O,O,O,O,O,O,O,O,O,O,O,O,O,O] ?_
         refine one_ (i := 17) (N := some 118) #[J,J,J,J,J,J,J,J,J,J,J,J,J,J,J,J,J,J,J,O,O,O,O,O,O,O,O,O,O,O,O,O,O,O] rfl rfl (one_of HT_.out (by kernel_rfl)) (by decide) (fun K hK => ?_)
         refine goes_ Try.func12 (by kernel_rfl) rfl #[.agg (B44 a2_0 A2_1 l2_1 c2_1 a2_2 a2_3 A2_4 l2_4 c2_4 a2_5 a2_6 a2_7 A2_8 l2_8 c2_8 A2_9 l2_9 c2_9 a2_10 a2_11 a2_12 A2_13 l2_13 c2_13 A2_14 l2_14 c2_14 A2_15 l2_15 c2_15)] (by rfl) rfl rfl mapA ?_
         with_reducible refine (bounds_Bounded.calls a2_0 _ _ l2_1 a2_2 a2_3 _ _ l2_4 a2_5 a2_6 a2_7 _ _ l2_8 _ _ l2_9 a2_10 a2_11 a2_12 _ _ l2_13 _ _ l2_14 _ _ l2_15 t489 _ ?side1 ?side2 ?side3 ?side4 ?side5 ?side6 ?side7 ?side8 ?side9 ?side10 ?side11 ?side12 ?side13 ?side14 A78.out).mono ?_
         (case side1 => exact c_belowA HR2_1.out)
         (case side2 => exact HC2_1.out)
         (case side3 => exact c_belowA HR2_4.out)
         (case side4 => exact HC2_4.out)
         (case side5 => exact c_belowA HR2_8.out)
         (case side6 => exact HC2_8.out)
         (case side7 => exact c_belowA HR2_9.out)
         (case side8 => exact HC2_9.out)
         (case side9 => exact c_belowA HR2_13.out)
         (case side10 => exact HC2_13.out)
         (case side11 => exact c_belowA HR2_14.out)
         (case side12 => exact HC2_14.out)
         (case side13 => exact c_belowA HR2_15.out)
         (case side14 => exact HC2_15.out)
         rintro e w89 ⟨rfl, hb⟩
         refine ⟨_, rfl, ?_⟩
         have n0_ := Aside0.mk (blk_keepA BK453.out hb)
         have n1_ := Aside0.mk (blk_keepA BK454.out hb)
         have n2_ := Aside0.mk (blk_keepA BK455.out hb)
         have n3_ := Aside0.mk (blk_keepA BK473.out hb)
         have n4_ := Aside0.mk (blk_keepA BK479.out hb)
         have n5_ := Aside0.mk (below_stepA hb)
         clear BK453
         clear BK454
         clear BK455
         clear BK473
         clear BK479
         clear HB
         have BK453 := n0_
         have BK454 := n1_
         have BK455 := n2_
         have BK473 := n3_
         have BK479 := n4_
         have HB := n5_
         clear n0_ n1_ n2_ n3_ n4_ n5_
         (try clear hb)
         (try clear hb2)
         (try clear hk)
         (try clear hi)
         refine hK.out _ _ ⟨(blk_cell BK454.out 0).trans rfl, (blk_cell BK454.out 1).trans rfl, (blk_cell BK454.out 2).trans rfl, (blk_cell BK454.out 3).trans rfl, (blk_cell BK454.out 4).trans rfl, (blk_cell BK454.out 5).trans rfl, (blk_cell BK453.out 0).trans rfl, (blk_cell BK453.out 1).trans rfl, (blk_cell BK455.out 0).trans rfl, (blk_cell BK455.out 1).trans rfl, (blk_cell BK455.out 2).trans rfl, (blk_cell BK455.out 3).trans rfl, (blk_cell BK455.out 4).trans rfl, (blk_cell BK455.out 5).trans rfl, (blk_cell BK455.out 6).trans rfl, (blk_cell BK455.out 7).trans rfl, (blk_cell BK455.out 8).trans rfl, (blk_cell BK455.out 9).trans rfl, (blk_cell BK455.out 10).trans rfl, (blk_cell BK455.out 11).trans rfl, (blk_cell BK455.out 12).trans rfl, (blk_cell BK455.out 13).trans rfl, (blk_cell BK455.out 14).trans rfl, (blk_cell BK455.out 15).trans rfl⟩ (fun hHeld => ?_)
         clear hK K
         refine norm_ (a' := ?_) ?_ ?_
         rotate_left
         ·
          show Act.put _ (some 118) _ = _
          simp only [Act.put, List.setIfInBounds_toArray, List.set_cons_zero, List.set_cons_succ, i64_w, i32_w]
          rfl
         refine one_ (i := 19) (N := some 120) #[J,J,J,J,J,J,J,J,J,J,J,J,J,J,J,J,J,J,J,J,O,O,O,O,O,O,O,O,O,O,O,O,O,O] rfl rfl (one_of HT_.out (by kernel_rfl)) (by decide) (fun K hK => ?_)
         refine goes_ Try.func23 (by kernel_rfl) rfl #[.agg (B44 a2_0 A2_1 l2_1 c2_1 a2_2 a2_3 A2_4 l2_4 c2_4 a2_5 a2_6 a2_7 A2_8 l2_8 c2_8 A2_9 l2_9 c2_9 a2_10 a2_11 a2_12 A2_13 l2_13 c2_13 A2_14 l2_14 c2_14 A2_15 l2_15 c2_15)] (by rfl) rfl rfl mapA ?_
         with_reducible refine (errataref20_Bounded.calls a2_0 _ _ l2_1 a2_2 a2_3 _ _ l2_4 a2_5 a2_6 a2_7 _ _ l2_8 _ _ l2_9 a2_10 a2_11 a2_12 _ _ l2_13 _ _ l2_14 _ _ l2_15 t490 _ ?side1 ?side2 ?side3 ?side4 ?side5 ?side6 ?side7 ?side8 ?side9 ?side10 ?side11 ?side12 ?side13 ?side14 A79.out).mono ?_
         (case side1 => exact c_belowA HR2_1.out)
         (case side2 => exact HC2_1.out)
         (case side3 => exact c_belowA HR2_4.out)
         (case side4 => exact HC2_4.out)
         (case side5 => exact c_belowA HR2_8.out)
         (case side6 => exact HC2_8.out)
         (case side7 => exact c_belowA HR2_9.out)
         (case side8 => exact HC2_9.out)
         (case side9 => exact c_belowA HR2_13.out)
         (case side10 => exact HC2_13.out)
         (case side11 => exact c_belowA HR2_14.out)
         (case side12 => exact HC2_14.out)
         (case side13 => exact c_belowA HR2_15.out)
         (case side14 => exact HC2_15.out)
         rintro e w90 ⟨rfl, hb⟩
         refine ⟨_, rfl, ?_⟩
         have n0_ := Aside0.mk (blk_keepA BK453.out hb)
         have n1_ := Aside0.mk (blk_keepA BK454.out hb)
         have n2_ := Aside0.mk (blk_keepA BK455.out hb)
         have n3_ := Aside0.mk (blk_keepA BK473.out hb)
         have n4_ := Aside0.mk (blk_keepA BK479.out hb)
         have n5_ := Aside0.mk (below_stepA hb)
         clear BK453
         clear BK454
         clear BK455
         clear BK473
         clear BK479
         clear HB
         have BK453 := n0_
         have BK454 := n1_
         have BK455 := n2_
         have BK473 := n3_
         have BK479 := n4_
         have HB := n5_
         clear n0_ n1_ n2_ n3_ n4_ n5_
         (try clear hb)
         (try clear hb2)
         (try clear hk)
         (try clear hi)
         refine hK.out _ _ ⟨(blk_cell BK454.out 0).trans rfl, (blk_cell BK454.out 1).trans rfl, (blk_cell BK454.out 2).trans rfl, (blk_cell BK454.out 3).trans rfl, (blk_cell BK454.out 4).trans rfl, (blk_cell BK454.out 5).trans rfl, (blk_cell BK453.out 0).trans rfl, (blk_cell BK453.out 1).trans rfl, (blk_cell BK455.out 0).trans rfl, (blk_cell BK455.out 1).trans rfl, (blk_cell BK455.out 2).trans rfl, (blk_cell BK455.out 3).trans rfl, (blk_cell BK455.out 4).trans rfl, (blk_cell BK455.out 5).trans rfl, (blk_cell BK455.out 6).trans rfl, (blk_cell BK455.out 7).trans rfl, (blk_cell BK455.out 8).trans rfl, (blk_cell BK455.out 9).trans rfl, (blk_cell BK455.out 10).trans rfl, (blk_cell BK455.out 11).trans rfl, (blk_cell BK455.out 12).trans rfl, (blk_cell BK455.out 13).trans rfl, (blk_cell BK455.out 14).trans rfl, (blk_cell BK455.out 15).trans rfl⟩ (fun hHeld => ?_)
         clear hK K
         refine norm_ (a' := ?_) ?_ ?_
         rotate_left
         ·
          show Act.put _ (some 120) _ = _
          simp only [Act.put, List.setIfInBounds_toArray, List.set_cons_zero, List.set_cons_succ, i64_w, i32_w]
          rfl
         refine pureA 20 121 #[J,J,J,J,J,J,J,J,J,J,J,J,J,J,J,J,J,J,J,J,J,O,O,O,O,O,O,O,O,O,O,O,O,O] ?_
         refine pureA 21 122 #[J,J,J,J,J,J,J,J,J,J,J,J,J,J,J,J,J,J,J,J,J,J,O,O,O,O,O,O,O,O,O,O,O,O] ?_
         refine pureA 22 123 #[J,J,J,J,J,J,J,J,J,J,J,J,J,J,J,J,J,J,J,J,J,J,J,O,O,O,O,O,O,O,O,O,O,O] ?_
         refine pureA 24 125 #[J,J,J,J,J,J,J,J,J,J,J,J,J,J,J,J,J,J,J,J,J,J,J,O,J,O,O,O,O,O,O,O,O,O] ?_
         refine pureA 25 126 #[J,J,J,J,J,J,J,J,J,J,J,J,J,J,J,J,J,J,J,J,J,J,J,O,J,J,O,O,O,O,O,O,O,O] ?_
         refine pureA 28 129 #[J,J,J,J,J,J,J,J,J,J,J,J,J,J,J,J,J,J,J,J,J,J,J,O,J,J,O,O,J,O,O,O,O,O] ?_
         refine pureA 29 130 #[J,J,J,J,J,J,J,J,J,J,J,J,J,J,J,J,J,J,J,J,J,J,J,O,J,J,O,O,J,J,O,O,O,O] ?_
         refine takeA 23 124 #[J,J,J,J,J,J,J,J,J,J,J,J,J,J,J,J,J,J,J,J,J,J,J,J,J,J,O,O,J,J,O,O,O,O] ?_
         refine takeA 27 128 #[J,J,J,J,J,J,J,J,J,J,J,J,J,J,J,J,J,J,J,J,J,J,J,J,J,J,O,J,J,J,O,O,O,O] ?_
         refine one_ (i := 26) (N := some 127) #[J,J,J,J,J,J,J,J,J,J,J,J,J,J,J,J,J,J,J,J,J,J,J,J,J,J,J,J,J,J,O,O,O,O] rfl rfl (one_of HT_.out (by kernel_rfl)) (by decide) (fun K hK => ?_)
         refine goes_ Try.func13 (by kernel_rfl) rfl #[.agg #[.slice A0_0 l0_0.length c0_0, .slice A0_1 l0_1.length c0_1], .int .i64 a3, .int .i64 a4] (by rfl) rfl rfl mapA ?_
         with_reducible refine (bounds_Witness.calls kj14 _ _ l0_0 _ _ l0_1 a3 a4 t491 _ ?side1 ?side2 ?side3 ?side4 A81.out).mono ?_
         (case side1 => exact c_belowA HR0_0.out)
         (case side2 => exact HC0_0.out)
         (case side3 => exact c_belowA HR0_1.out)
         (case side4 => exact HC0_1.out)
         rintro e w91 ⟨v492, rfl, ho0, hb⟩
         refine ⟨_, rfl, ?_⟩
         have n0_ := Aside0.mk (Kd.S_lower ho0 below_sizeA)
         have n1_ := Aside0.mk (blk_keepA BK453.out hb)
         have n2_ := Aside0.mk (blk_keepA BK454.out hb)
         have n3_ := Aside0.mk (blk_keepA BK455.out hb)
         have n4_ := Aside0.mk (blk_keepA BK473.out hb)
         have n5_ := Aside0.mk (blk_keepA BK479.out hb)
         have n6_ := Aside0.mk (below_stepA hb)
         clear BK453
         clear BK454
         clear BK455
         clear BK473
         clear BK479
         clear HB
         have HO493 := n0_
         have BK453 := n1_
         have BK454 := n2_
         have BK455 := n3_
         have BK473 := n4_
         have BK479 := n5_
         have HB := n6_
         clear n0_ n1_ n2_ n3_ n4_ n5_ n6_
         (try clear hb)
         (try clear hb2)
         (try clear hk)
         (try clear hi)
         (try clear ho0)
         refine hK.out _ _ ⟨(blk_cell BK454.out 0).trans rfl, (blk_cell BK454.out 1).trans rfl, (blk_cell BK454.out 2).trans rfl, (blk_cell BK454.out 3).trans rfl, (blk_cell BK454.out 4).trans rfl, (blk_cell BK454.out 5).trans rfl, (blk_cell BK453.out 0).trans rfl, (blk_cell BK453.out 1).trans rfl, (blk_cell BK455.out 0).trans rfl, (blk_cell BK455.out 1).trans rfl, (blk_cell BK455.out 2).trans rfl, (blk_cell BK455.out 3).trans rfl, (blk_cell BK455.out 4).trans rfl, (blk_cell BK455.out 5).trans rfl, (blk_cell BK455.out 6).trans rfl, (blk_cell BK455.out 7).trans rfl, (blk_cell BK455.out 8).trans rfl, (blk_cell BK455.out 9).trans rfl, (blk_cell BK455.out 10).trans rfl, (blk_cell BK455.out 11).trans rfl, (blk_cell BK455.out 12).trans rfl, (blk_cell BK455.out 13).trans rfl, (blk_cell BK455.out 14).trans rfl, (blk_cell BK455.out 15).trans rfl⟩ (fun hHeld => ?_)
         clear hK K
         refine norm_ (a' := ?_) ?_ ?_
         rotate_left
         ·
          show Act.put _ (some 127) _ = _
          simp only [Act.put, List.setIfInBounds_toArray, List.set_cons_zero, List.set_cons_succ, i64_w, i32_w]
          rfl
         refine one_ (i := 30) (N := some 131) #[J,J,J,J,J,J,J,J,J,J,J,J,J,J,J,J,J,J,J,J,J,J,J,J,J,J,J,J,J,J,J,O,O,O] rfl rfl (one_of HT_.out (by kernel_rfl)) (by decide) (fun K hK => ?_)
         refine goes_ Try.func25 (by kernel_rfl) rfl #[.agg #[.slice A0_0 l0_0.length c0_0, .slice A0_1 l0_1.length c0_1], .int .i64 a3, .int .i64 a4] (by rfl) rfl rfl mapA ?_
         with_reducible refine (errataref20_Witness.calls kj14 _ _ l0_0 _ _ l0_1 a3 a4 t494 _ ?side1 ?side2 ?side3 ?side4 A82.out).mono ?_
         (case side1 => exact c_belowA HR0_0.out)
         (case side2 => exact HC0_0.out)
         (case side3 => exact c_belowA HR0_1.out)
         (case side4 => exact HC0_1.out)
         rintro e w92 ⟨v495, rfl, ho0, hb⟩
         refine ⟨_, rfl, ?_⟩
         have n0_ := Aside0.mk (Kd.S_elder' (by (with_reducible repeat (first | apply Kd.S_alloc | apply Kd.S_drewN | apply Kd.S_drew)); exact HO493.out) (Kd.S_base ho0) hb)
         have n1_ := Aside0.mk (Kd.S_lower (Kd.S_new' ho0 (Kd.S_lt (by (with_reducible repeat (first | apply Kd.S_alloc | apply Kd.S_drewN | apply Kd.S_drew)); exact HO493.out))) below_sizeA)
         have n2_ := Aside0.mk (blk_keepA BK453.out hb)
         have n3_ := Aside0.mk (blk_keepA BK454.out hb)
         have n4_ := Aside0.mk (blk_keepA BK455.out hb)
         have n5_ := Aside0.mk (blk_keepA BK473.out hb)
         have n6_ := Aside0.mk (blk_keepA BK479.out hb)
         have n7_ := Aside0.mk (below_stepA hb)
         clear HO493
         clear BK453
         clear BK454
         clear BK455
         clear BK473
         clear BK479
         clear HB
         have HO493 := n0_
         have HO496 := n1_
         have BK453 := n2_
         have BK454 := n3_
         have BK455 := n4_
         have BK473 := n5_
         have BK479 := n6_
         have HB := n7_
         clear n0_ n1_ n2_ n3_ n4_ n5_ n6_ n7_
         (try clear hb)
         (try clear hb2)
         (try clear hk)
         (try clear hi)
         (try clear ho0)
         obtain ⟨Ao93, co93, eo93⟩ := Kd.S_slice HO493.out
         (first | subst eo93 | (injection eo93 with f1_ f2_ f3_; have f4_ := f1_.symm; have f5_ := f3_.symm; clear f1_ f2_ f3_; subst f4_; subst f5_))
         obtain ⟨Ao94, co94, eo94⟩ := Kd.S_slice HO496.out
         (first | subst eo94 | (injection eo94 with f1_ f2_ f3_; have f4_ := f1_.symm; have f5_ := f3_.symm; clear f1_ f2_ f3_; subst f4_; subst f5_))
         refine hK.out _ _ ⟨(blk_cell BK454.out 0).trans rfl, (blk_cell BK454.out 1).trans rfl, (blk_cell BK454.out 2).trans rfl, (blk_cell BK454.out 3).trans rfl, (blk_cell BK454.out 4).trans rfl, (blk_cell BK454.out 5).trans rfl, (blk_cell BK453.out 0).trans rfl, (blk_cell BK453.out 1).trans rfl, (blk_cell BK455.out 0).trans rfl, (blk_cell BK455.out 1).trans rfl, (blk_cell BK455.out 2).trans rfl, (blk_cell BK455.out 3).trans rfl, (blk_cell BK455.out 4).trans rfl, (blk_cell BK455.out 5).trans rfl, (blk_cell BK455.out 6).trans rfl, (blk_cell BK455.out 7).trans rfl, (blk_cell BK455.out 8).trans rfl, (blk_cell BK455.out 9).trans rfl, (blk_cell BK455.out 10).trans rfl, (blk_cell BK455.out 11).trans rfl, (blk_cell BK455.out 12).trans rfl, (blk_cell BK455.out 13).trans rfl, (blk_cell BK455.out 14).trans rfl, (blk_cell BK455.out 15).trans rfl⟩ (fun hHeld => ?_)
         clear hK K
         refine norm_ (a' := ?_) ?_ ?_
         rotate_left
         ·
          show Act.put _ (some 131) _ = _
          simp only [Act.put, List.setIfInBounds_toArray, List.set_cons_zero, List.set_cons_succ, i64_w, i32_w]
          rfl
         refine one_ (i := 31) (N := some 132) #[J,J,J,J,J,J,J,J,J,J,J,J,J,J,J,J,J,J,J,J,J,J,J,J,J,J,J,J,J,J,J,J,O,O] rfl rfl (one_of HT_.out (by kernel_rfl)) (by decide) (fun K hK => ?_)
         refine goes_ Try.func24 (by kernel_rfl) rfl #[.slice Ao93 t491.length co93, .slice Ao94 t494.length co94] (by rfl) rfl rfl mapA ?_
         with_reducible refine (errataref20_SameRows.calls kj14 _ _ t491 _ _ t494 true _ ?side1 ?side2 ?side3 ?side4 A83.out).mono ?_
         (case side1 => repeat (first | exact (Kd.S_reads' HO493.out).2.2 | (with_reducible refine Kd.C_alloc ?_ _) | (with_reducible refine Kd.C_drewN ?_ _) | (with_reducible refine Kd.C_drew ?_)))
         (case side2 => exact (Kd.S_reads' HO493.out).2.1)
         (case side3 => repeat (first | exact (Kd.S_reads' HO496.out).2.2 | (with_reducible refine Kd.C_alloc ?_ _) | (with_reducible refine Kd.C_drewN ?_ _) | (with_reducible refine Kd.C_drew ?_)))
         (case side4 => exact (Kd.S_reads' HO496.out).2.1)
         rintro e w' ⟨rfl, ⟨nd, rfl⟩⟩
         refine ⟨_, rfl, ?_⟩
         refine hK.out _ _ ⟨(blk_cell BK454.out 0).trans rfl, (blk_cell BK454.out 1).trans rfl, (blk_cell BK454.out 2).trans rfl, (blk_cell BK454.out 3).trans rfl, (blk_cell BK454.out 4).trans rfl, (blk_cell BK454.out 5).trans rfl, (blk_cell BK453.out 0).trans rfl, (blk_cell BK453.out 1).trans rfl, (blk_cell BK455.out 0).trans rfl, (blk_cell BK455.out 1).trans rfl, (blk_cell BK455.out 2).trans rfl, (blk_cell BK455.out 3).trans rfl, (blk_cell BK455.out 4).trans rfl, (blk_cell BK455.out 5).trans rfl, (blk_cell BK455.out 6).trans rfl, (blk_cell BK455.out 7).trans rfl, (blk_cell BK455.out 8).trans rfl, (blk_cell BK455.out 9).trans rfl, (blk_cell BK455.out 10).trans rfl, (blk_cell BK455.out 11).trans rfl, (blk_cell BK455.out 12).trans rfl, (blk_cell BK455.out 13).trans rfl, (blk_cell BK455.out 14).trans rfl, (blk_cell BK455.out 15).trans rfl⟩ (fun hHeld => ?_)
         clear hK K
         refine norm_ (a' := ?_) ?_ ?_
         rotate_left
         ·
          show Act.put _ (some 132) _ = _
          simp only [Act.put, List.setIfInBounds_toArray, List.set_cons_zero, List.set_cons_succ, i64_w, i32_w]
          rfl
         refine pureA 32 133 #[J,J,J,J,J,J,J,J,J,J,J,J,J,J,J,J,J,J,J,J,J,J,J,J,J,J,J,J,J,J,J,J,J,O] ?_
         refine pureA 33 10 #[J,J,J,J,J,J,J,J,J,J,J,J,J,J,J,J,J,J,J,J,J,J,J,J,J,J,J,J,J,J,J,J,J,J] ?_
         refine done_ (done_of HT_.out (by kernel_rfl)) ?_
         try go_wp2
         go_ret
         exact ⟨by first | rfl | (simp [errW_none, errW_some] <;> rfl) | (simp [*, errW_none, errW_some] <;> rfl), belowA⟩
        ·
         rw [if_neg c80] at H
         have c80b0 : (t489 == t490) = false := by simpa using c80
         (try (have c80b1 : decide (t489 = t490) = false := by simpa using c80))
         (try (have c80b2 : (t489 == t490) = false := by simpa using c80))
         (try (have c80b3 : ¬ (t489 = t490) := by simpa using c80))
         clear c80
         cases H
       ·
        rw [if_neg c77] at H
        have c77b0 : (t487 == t488) = false := by simpa using c77
        (try (have c77b1 : decide (t487 = t488) = false := by simpa using c77))
        (try (have c77b2 : (t487 == t488) = false := by simpa using c77))
        (try (have c77b3 : ¬ (t487 = t488) := by simpa using c77))
        clear c77
        cases H
      ·
       rw [if_neg c74] at H
       have c74b0 : (t485 == t486) = false := by simpa using c74
       (try (have c74b1 : decide (t485 = t486) = false := by simpa using c74))
       (try (have c74b2 : (t485 == t486) = false := by simpa using c74))
       (try (have c74b3 : ¬ (t485 = t486) := by simpa using c74))
       clear c74
       cases H
     ·
      replace c71 := Bool.eq_false_iff.mpr c71
      subst c71
      rw [if_neg (show ¬ (false = true) by decide)] at H
      cases H
 ·
  replace c8 := Bool.eq_false_iff.mpr c8
  subst c8
  rw [if_neg (show ¬ (false = true) by decide)] at H
  obtain rfl := Option.some.inj H
  go_enter Try.func6, Try.ntmps6
  go_wp2_with (first | ((with_reducible refine gate_dst (N := 5) rfl ?_); refine box_event ?hg (N := 5) ?hd (cs := #[.slice A0_0 l0_0.length c0_0, .slice A0_1 l0_1.length c0_1]) (t := 25) ?hr ?_; (case hd => rfl); (case hg => rfl); (case hr => first | (go_simp; done) | (go_simp; rfl)); intro gb453 hg w95 hbox hb; have BK453 := Aside0.mk (hbox); have GW453 := Aside0.mk ((by rw [hg]; exact below_sizeA : w.heap.size ≤ gb453)); have GE453 := GW453; replace HB := Aside0.mk (below_stepA hb); clear hb hbox hg) | ((with_reducible refine gate_dst (N := 6) rfl ?_); refine box_event ?hg (N := 6) ?hd (cs := #[.int .i64 a1_0, .int .i64 a1_1, .int .i64 a1_2, .int .i64 a1_3, .int .i64 a1_4, .int .i64 a1_5]) (t := 27) ?hr ?_; (case hd => rfl); (case hg => rfl); (case hr => first | (go_simp; done) | (go_simp; rfl)); intro gb454 hg w96 hbox hb; have BK454 := Aside0.mk (hbox); have GW454 := Aside0.mk ((by rw [hg]; exact below_sizeA : w.heap.size ≤ gb454)); have GE454 := GW454; have NB453_454 := Aside0.mk ((by rw [hg]; exact Nat.ne_of_lt (blk_ltKA BK453.out) : gb453 ≠ gb454)); have NB454_453 := Aside0.mk NB453_454.out.symm; replace BK453 := Aside0.mk (blk_keepA BK453.out hb); replace HB := Aside0.mk (below_stepA hb); clear hb hbox hg) | ((with_reducible refine gate_dst (N := 7) rfl ?_); refine box_event ?hg (N := 7) ?hd (cs := (B44 a2_0 A2_1 l2_1 c2_1 a2_2 a2_3 A2_4 l2_4 c2_4 a2_5 a2_6 a2_7 A2_8 l2_8 c2_8 A2_9 l2_9 c2_9 a2_10 a2_11 a2_12 A2_13 l2_13 c2_13 A2_14 l2_14 c2_14 A2_15 l2_15 c2_15)) (t := 44) ?hr ?_; (case hd => rfl); (case hg => rfl); (case hr => first | (go_simp; done) | (go_simp; rfl)); intro gb455 hg w97 hbox hb; have BK455 := Aside0.mk (hbox); have GW455 := Aside0.mk ((by rw [hg]; exact below_sizeA : w.heap.size ≤ gb455)); have GE455 := GW455; have NB453_455 := Aside0.mk ((by rw [hg]; exact Nat.ne_of_lt (blk_ltKA BK453.out) : gb453 ≠ gb455)); have NB455_453 := Aside0.mk NB453_455.out.symm; have NB454_455 := Aside0.mk ((by rw [hg]; exact Nat.ne_of_lt (blk_ltKA BK454.out) : gb454 ≠ gb455)); have NB455_454 := Aside0.mk NB454_455.out.symm; replace BK453 := Aside0.mk (blk_keepA BK453.out hb); replace BK454 := Aside0.mk (blk_keepA BK454.out hb); replace HB := Aside0.mk (below_stepA hb); clear hb hbox hg) | ((with_reducible refine gate_callee (f := 7) rfl ?_); refine goesL_ (some 26) rfl rfl Try.func7 (by kernel_rfl) rfl #[] rfl mapA ?_; (with_reducible refine (erratalaw20_small.calls k true _ A6.out).mono ?_); rintro e w98 ⟨rfl, hb⟩; refine ⟨_, rfl, ?_⟩; replace BK453 := Aside0.mk (blk_keepA BK453.out hb); replace BK454 := Aside0.mk (blk_keepA BK454.out hb); replace BK455 := Aside0.mk (blk_keepA BK455.out hb); replace HB := Aside0.mk (below_stepA hb); (try clear hb); have hnb99 := NB453_454.out; have hnc99 := NB454_453.out; have hnb100 := NB453_455.out; have hnc100 := NB455_453.out; have hz101 := blk2 BK453.out) | ((with_reducible refine gate_callee (f := 8) rfl ?_); refine goesL_ (some 28) rfl rfl Try.func8 (by kernel_rfl) rfl #[.agg #[.slice A0_0 l0_0.length c0_0, .slice A0_1 l0_1.length c0_1]] rfl mapA ?_; (with_reducible refine (erratalaw20_few.calls k _ _ l0_0 _ _ l0_1 false _ (c_belowA HR0_0.out) HC0_0.out (c_belowA HR0_1.out) HC0_1.out A7.out).mono ?_); rintro e w102 ⟨rfl, hb⟩; refine ⟨_, rfl, ?_⟩; replace BK453 := Aside0.mk (blk_keepA BK453.out hb); replace BK454 := Aside0.mk (blk_keepA BK454.out hb); replace BK455 := Aside0.mk (blk_keepA BK455.out hb); replace HB := Aside0.mk (below_stepA hb); (try clear hb)))
  go_ret
  exact ⟨by first | rfl | (simp [errW_none, errW_some] <;> rfl) | (simp [*, errW_none, errW_some] <;> rfl), belowA⟩

end Go.Proofs.Yteoljddobfnfiaa.PB
end
section
namespace Go.Proofs.Yteoljddobfnfiaa.Pure
open Go.RowKit Go.Proofs.YteoljddobfnfiaaW.PrintWords Go.Proofs.YteoljddobfnfiaaW.PrintLast Go.Proofs.YteoljddobfnfiaaW.PrintMore Go.Proofs.Yteoljddobfnfiaa.PB
set_option linter.unusedVariables false
set_option linter.unusedSimpArgs false

theorem few_cols {l : List S44} (h : few l = true) : ∀ n ∈ l, n.f15.length ≤ 20 := by
  unfold few at h
  intro n hn
  have := List.all_eq_true.1 (Bool.and_eq_true_iff.1 h).1 n hn
  unfold fewN at this
  simp only [Bool.and_eq_true, decide_eq_true_eq] at this
  omega
theorem analyze_len (l : List S44) (hl : l.length ≤ 9223372036854775807) (c0 c1 c2 c3 c4 c5 : Int) : (analyze l c0 c1 c2 c3 c4 c5).1.length ≤ 9223372036854775807 := by
  have hf : ∀ (r : List S44) (i : Int) (bs : List S37), (ana c0 c4 c5 i bs r).1.length ≤ bs.length + r.length := by
    intro r
    induction r with
    | nil => intro i bs; simp [ana]
    | cons n r ih =>
      intro i bs
      rw [ana]
      split
      · split
        · simp
        · have := ih (i + 1) (bs ++ [boundOf bs c0 c4 c5 n])
          rw [List.length_append, List.length_singleton] at this
          rw [List.length_cons]
          omega
      · simp
  unfold analyze
  split
  · have := hf l 0 []
    simp only [List.length_nil] at this
    omega
  · simp
section
variable (l : List S44) (F : List S95) (hl : l.length ≤ 9223372036854775807) (hin : ∀ n ∈ l, n.f1.length ≤ 9223372036854775807) (c0 c1 c2 c3 c4 c5 : Int) (x : S44) (node n : Int)
include hl hin
theorem Tells_j0 (hcols : ∀ n ∈ l, n.f15.length ≤ 20) : Ev (fun k => erratalaw20_BoundsTells.j0 k node n true false F l c0 c1 c2 c3 c4 c5 x.f0 x.f1 x.f2 x.f3 x.f4 x.f5 x.f6 x.f7 x.f8 x.f9 x.f10 x.f11 x.f12 x.f13 x.f14 x.f15) true := by
  obtain ⟨h1, h2⟩ := witness_len l hcols node n
  have hs := SameRows_ev (witness l node n) (by omega) (fun r hr => by have := h2 r hr; omega)
  refine Ev.step (f := fun k => (bounds_Well.f k F l).bind fun t487 => (errataref20_Well.f k F l).bind fun t488 => if (t487 == t488) = true then ((bounds_Witness.f k F l node n).bind fun t491 => (errataref20_Witness.f k F l node n).bind fun t494 => (errataref20_SameRows.f k t491 t494).bind fun t497 => some t497) else some false) (fun k => ?_)
    (Ev.bind (Well_ev l F hl hin) (Ev.bind (rWell_ev l F hl hin) ?_))
  · simp only [erratalaw20_BoundsTells.j0, Bool.false_eq_true, if_false, if_true, RightConfig_eq, rRightConfig_eq, Bounded_eq, rBounded_eq, Option.bind_some, beq_self_eq_true]
  · refine Ev.congr (fun k => by rw [if_pos (beq_self_eq_true _)]) (Ev.bind (Witness_ev l F hl hin hcols node n) (Ev.bind (rWitness_ev l F hl hin hcols node n) (Ev.bind hs (Ev.now _))))
theorem Tells_ev : Ev (fun k => erratalaw20_BoundsTells.f k F l c0 c1 c2 c3 c4 c5 x.f0 x.f1 x.f2 x.f3 x.f4 x.f5 x.f6 x.f7 x.f8 x.f9 x.f10 x.f11 x.f12 x.f13 x.f14 x.f15 node n) true := by
  refine Ev.congr (fun k => by unfold erratalaw20_BoundsTells.f; rfl) (Ev.bind small_ev (Ev.bind (few_ev l F hl) ?_))
  by_cases hf : few l = true
  · refine Ev.congr (fun k => by rw [if_pos hf]) (Ev.bind (Ana_ev l F hl hin c0 c1 c2 c3 c4 c5) (Ev.bind (rAna_ev l F hl hin c0 c1 c2 c3 c4 c5) (Ev.bind (Total_ev l F hl hin c0 c1 c2 c3 c4 c5) (Ev.bind (rTotal_ev l F hl hin c0 c1 c2 c3 c4 c5) ?_))))
    refine Ev.congr (fun k => by rw [Own_eq, Option.bind_some, rOwn_eq, Option.bind_some]) (Ev.bind (Same_ev _ (analyze_len l hl c0 c1 c2 c3 c4 c5)) ?_)
    refine Ev.congr (fun k => ?_) (Tells_j0 l F hl hin c0 c1 c2 c3 c4 c5 x node n (few_cols hf))
    simp
  · exact Ev.congr (fun k => by rw [if_neg hf]) (Ev.now _)
theorem Tells_true : ∃ k, erratalaw20_BoundsTells.f k F l c0 c1 c2 c3 c4 c5 x.f0 x.f1 x.f2 x.f3 x.f4 x.f5 x.f6 x.f7 x.f8 x.f9 x.f10 x.f11 x.f12 x.f13 x.f14 x.f15 node n = some true := (Tells_ev l F hl hin c0 c1 c2 c3 c4 c5 x node n).rounds
end
end Go.Proofs.Yteoljddobfnfiaa.Pure
end
section
namespace Go.Proofs.Yteoljddobfnfiaa.My
open Go.RowKit Go.Proofs.YteoljddobfnfiaaW.PrintWords

def OpensAt (P : Program) (t : TypeId) {α : Type} (d : Kd α) (good : α → Prop) (n : Nat) : Prop :=
  ∀ (H : Type) (enc : TypeId × Value → H) (w : World) (sp : Nat → Bool) (held : Bool) (cs : List Value) (x : DataW H × List MemPlace),
    DataW.trod enc P w 0 sp held n t cs = some x → ∃ a : α, d.K w a cs ∧ good a

theorem opens_int {P : Program} {t : TypeId} {k : IntKind} (ht : P.underlying t = some (.int k)) (n : Nat) : OpensAt P t (Kd.int k) (fun a => (Lit.int k a).wf = true) n := by
  intro H enc w sp held cs x h
  cases n with
  | zero => simp [DataW.trod] at h
  | succ n =>
    unfold DataW.trod at h
    rw [ht] at h
    split at h <;> simp_all
    obtain ⟨⟨rfl, hw⟩, rfl⟩ := h
    exact ⟨_, rfl, hw⟩
theorem opens_string {P : Program} {t : TypeId} (ht : P.underlying t = some .string) (n : Nat) : OpensAt P t Kd.string (fun s => s.size ≤ 9223372036854775807) n := by
  intro H enc w sp held cs x h
  cases n with
  | zero => simp [DataW.trod] at h
  | succ n =>
    unfold DataW.trod at h
    rw [ht] at h
    split at h <;> simp_all
    obtain ⟨hs, rfl⟩ := h
    exact ⟨_, rfl, hs⟩

theorem choose_list {α : Type} {p : Nat → α → Prop} : ∀ n : Nat, (∀ i, i < n → ∃ y, p i y) → ∃ l : List α, l.length = n ∧ ∀ i y, l[i]? = some y → p i y
  | 0, _ => ⟨[], rfl, fun i y h => by simp at h⟩
  | n + 1, h => by
    obtain ⟨l, hl, hp⟩ := choose_list n (fun i hi => h i (by omega))
    obtain ⟨y, hy⟩ := h n (by omega)
    refine ⟨l ++ [y], by simp [hl], fun i z hz => ?_⟩
    rcases Nat.lt_or_ge i n with hi | hi
    · rw [List.getElem?_append_left (by omega)] at hz
      exact hp i z hz
    · rw [List.getElem?_append_right (by omega)] at hz
      rcases Nat.eq_or_lt_of_le hi with rfl | hi
      · simp [hl] at hz
        subst hz
        exact hy
      · rw [List.getElem?_eq_none (by simp; omega)] at hz
        cases hz

theorem opens_slice {P : Program} {t e : TypeId} {α : Type} {d : Kd α} {good : α → Prop} (ht : P.underlying t = some (.slice e)) (hs : P.cellsOf e = d.sz) {n : Nat} (hd : ∀ m, m < n → OpensAt P e d good m) :
    OpensAt P t (Kd.slice e d) (fun xs => xs.length ≤ 9223372036854775807 ∧ ∀ a ∈ xs, good a) n := by
  intro H enc w sp held cs x h
  rcases DataW.trod_slice ht h with ⟨rfl, _⟩ | ⟨a, len, cap, elems, rest, m, rfl, rfl, _, _, hl, hm, hlen, hel, _, _⟩
  · exact ⟨[], ⟨none, 0, rfl, Nat.le_refl _, rfl, Nat.zero_le _, fun h => absurd h (Nat.lt_irrefl 0)⟩, Nat.zero_le _, by simp⟩
  · have each : ∀ i, i < len → ∃ y : α, good y ∧ ∃ c, c.length = d.sz ∧ d.K w y c ∧ ∀ j u, c[j]? = some u → w.cell? (a.add (i * d.sz + j)) = some u := by
      intro i hi
      have h1 := hel i hi
      rw [List.getElem?_eq_getElem (by omega)] at h1
      obtain ⟨c, hc, hy⟩ := Option.bind_eq_some_iff.1 h1
      obtain ⟨y, hk, hg⟩ := hd m (Nat.lt_succ_self m) H enc w sp held c _ hy
      obtain ⟨_, hlc, hcell⟩ := World.cells?_some hc
      refine ⟨y, hg, c, d.K_len hk, hk, fun j u hj => ?_⟩
      have hjl : j < c.length := by
        rcases Nat.lt_or_ge j c.length with h | h
        · exact h
        · rw [List.getElem?_eq_none h] at hj; cases hj
      have hcj := hcell j (by omega)
      rw [hj] at hcj
      rw [hs] at hcj
      rw [← hcj, Addr.add_add]
    obtain ⟨l, hll, hf⟩ := choose_list len each
    have hmx : maxLen = 9223372036854775807 := rfl
    refine ⟨l, ⟨some a, cap, by rw [hll], by omega, rfl, by omega, fun _ => ⟨a, rfl, fun j p hp => (hf j p hp).2⟩⟩, by omega, fun y hy => ?_⟩
    obtain ⟨j, hj⟩ := List.getElem?_of_mem hy
    exact (hf j y hj).1

def FieldsAt (P : Program) (fs : List Field) (o : Nat) {α : Type} (d : Kd α) (good : α → Prop) (n : Nat) : Prop :=
  ∀ (H : Type) (enc : TypeId × Value → H) (w : World) (sp : Nat → Bool) (held : Bool) (cs : List Value) (xs : List (DataW H × List MemPlace)), cs.length = o + d.sz → xs.length = fs.length →
    (∀ (i : Nat) (f : Field), fs[i]? = some f → DataW.trod enc P w 0 sp held n f.type ((cs.drop f.offset).take (P.cellsOf f.type)) = xs[i]?) → ∃ a : α, d.K w a (cs.drop o) ∧ good a
theorem fields_one {P : Program} {f : Field} {o : Nat} {α : Type} {d : Kd α} {good : α → Prop} {n : Nat} (ho : f.offset = o) (hs : P.cellsOf f.type = d.sz) (h : OpensAt P f.type d good n) : FieldsAt P [f] o d good n := by
  intro H enc w sp held cs xs hl hx hf
  match xs, hx with
  | [y], _ =>
    have h0 := hf 0 f rfl
    simp only [List.getElem?_cons_zero] at h0
    rw [ho, hs, List.take_of_length_le (by simp; omega)] at h0
    exact h H enc w sp held _ _ h0
theorem fields_cons {P : Program} {f : Field} {fs : List Field} {o : Nat} {α β : Type} {d : Kd α} {d' : Kd β} {good : α → Prop} {good' : β → Prop} {n : Nat} (ho : f.offset = o) (hs : P.cellsOf f.type = d.sz)
    (h : OpensAt P f.type d good n) (hr : FieldsAt P fs (o + d.sz) d' good' n) : FieldsAt P (f :: fs) o (Kd.pair d d') (fun x => good x.1 ∧ good' x.2) n := by
  intro H enc w sp held cs xs hl hx hf
  match xs, hx with
  | y :: ys, hx =>
    have h0 := hf 0 f rfl
    simp only [List.getElem?_cons_zero] at h0
    rw [ho, hs] at h0
    obtain ⟨a, ha, ga⟩ := h H enc w sp held _ _ h0
    have hl' : cs.length = o + d.sz + d'.sz := by rw [hl]; show o + (d.sz + d'.sz) = _; omega
    obtain ⟨b, hb, gb⟩ := hr H enc w sp held cs ys hl' (by simpa using hx) (fun i g hg => by simpa using hf (i + 1) g (by simpa using hg))
    refine ⟨(a, b), ⟨(cs.drop o).take d.sz, cs.drop (o + d.sz), ?_, ha, hb⟩, ga, gb⟩
    rw [← List.drop_drop, List.take_append_drop]
theorem opens_struct {P : Program} {t : TypeId} {fs : Array Field} {α β : Type} {d : Kd α} {good : α → Prop} (f : β → α) (g : α → β) (hfg : ∀ x, f (g x) = x) (ht : P.underlying t = some (.struct fs)) (hs : P.cellsOf t = d.sz) {n : Nat}
    (hd : ∀ m, m < n → FieldsAt P fs.toList 0 d good m) : OpensAt P t (Kd.iso d f) (fun x => good (f x)) n := by
  intro H enc w sp held cs x h
  obtain ⟨xs, m, hm, _, hl, hlen, hf⟩ := DataW.trod_struct ht h
  subst hm
  obtain ⟨a, ha, ga⟩ := hd m (Nat.lt_succ_self m) H enc w sp held cs xs (by rw [hl, hs]; omega) (by simpa using hlen) (fun i y hy => hf i y (by simpa using hy))
  refine ⟨g a, ?_, ?_⟩
  · show d.K w (f (g a)) cs
    rw [hfg]
    simpa using ha
  · show good (f (g a))
    rw [hfg]
    exact ga
theorem opens_imp {P : Program} {t : TypeId} {α : Type} {d : Kd α} {good good' : α → Prop} {n : Nat} (h : OpensAt P t d good n) (hg : ∀ x, good x → good' x) : OpensAt P t d good' n := by
  intro H enc w sp held cs x hx
  obtain ⟨a, ha, ga⟩ := h H enc w sp held cs x hx
  exact ⟨a, ha, hg a ga⟩
end Go.Proofs.Yteoljddobfnfiaa.My
end
section
namespace Go.Proofs.Yteoljddobfnfiaa.My
open Go.RowKit Go.WideShapes Go.Proofs.YteoljddobfnfiaaW.PrintWords Go.Proofs.Yteoljddobfnfiaa.PB
set_option linter.unusedVariables false
set_option linter.unusedSimpArgs false

theorem open_i (n : Nat) : OpensAt Try.prog 3 (Kd.int .i64) (fun a => (Lit.int .i64 a).wf = true) n := opens_int Try.underlying3 n
theorem open_s (n : Nat) : OpensAt Try.prog 9 Kd.string (fun s => s.size ≤ 9223372036854775807) n := opens_string (by kernel_rfl) n
theorem open38 (n : Nat) : OpensAt Try.prog 38 (Kd.slice 3 (Kd.int .i64)) (fun xs => xs.length ≤ 9223372036854775807 ∧ ∀ a ∈ xs, (Lit.int .i64 a).wf = true) n := opens_slice Try.underlying38 (by kernel_rfl) (fun m _ => open_i m)
theorem open50 (n : Nat) : OpensAt Try.prog 50 k50 (fun _ => True) n :=
  opens_imp (opens_struct (fun x : S50 => (x.f0, x.f1, x.f2)) (fun p => ⟨p.1, p.2.1, p.2.2⟩) (fun _ => rfl) Try.underlying50 (by kernel_rfl)
    (fun m _ => fields_cons rfl (by kernel_rfl) (open_s m) (fields_cons rfl (by kernel_rfl) (open_i m) (fields_one rfl (by kernel_rfl) (open_s m))))) (fun _ _ => trivial)
theorem open97 (n : Nat) : OpensAt Try.prog 97 k97 (fun _ => True) n :=
  opens_imp (opens_struct (fun x : S97 => (x.f0, x.f1, x.f2)) (fun p => ⟨p.1, p.2.1, p.2.2⟩) (fun _ => rfl) Try.underlying97 (by kernel_rfl)
    (fun m _ => fields_cons rfl (by kernel_rfl) (open_i m) (fields_cons rfl (by kernel_rfl) (open_i m) (fields_one rfl (by kernel_rfl) (open_s m))))) (fun _ _ => trivial)
theorem open93 (n : Nat) : OpensAt Try.prog 93 k93 (fun _ => True) n := by
  induction n using Nat.strongRecOn with
  | _ n ih =>
    have h : OpensAt Try.prog 93 (F93 k93) (fun _ => True) n :=
      opens_imp (opens_struct (fun x : S93 => (x.f0, x.f1, x.f2, x.f3)) (fun p => ⟨p.1, p.2.1, p.2.2.1, p.2.2.2⟩) (fun _ => rfl) Try.underlying93 (by kernel_rfl)
        (fun m hm => fields_cons rfl (by kernel_rfl) (open_i m) (fields_cons rfl (by kernel_rfl) (open_i m) (fields_cons rfl (by kernel_rfl) (open_s m)
          (fields_one rfl (by kernel_rfl) (opens_slice (t := 39) (e := 93) (d := k93) (good := fun _ => True) (by kernel_rfl) (by kernel_rfl) (fun j hj => ih j (by omega)))))))) (fun _ _ => trivial)
    intro H enc w sp held cs x hx
    obtain ⟨a, ⟨c0, r0, rfl, rfl, c1, r1, rfl, rfl, c2, r2, rfl, rfl, A, c, rfl, l, g⟩, _⟩ := h H enc w sp held cs x hx
    exact ⟨a, k93_mk w a l g, trivial⟩
theorem open99 (n : Nat) : OpensAt Try.prog 99 k99 (fun _ => True) n :=
  opens_imp (opens_struct (fun x : S99 => (x.f0, x.f1)) (fun p => ⟨p.1, p.2⟩) (fun _ => rfl) Try.underlying99 (by kernel_rfl)
    (fun m _ => fields_cons rfl (by kernel_rfl) (open93 m) (fields_one rfl (by kernel_rfl) (open_i m)))) (fun _ _ => trivial)
theorem open95 (n : Nat) : OpensAt Try.prog 95 k95 (fun _ => True) n :=
  opens_imp (opens_struct (fun x : S95 => (x.f0, x.f1, x.f2, x.f3)) (fun p => ⟨p.1, p.2.1, p.2.2.1, p.2.2.2⟩) (fun _ => rfl) Try.underlying95 (by kernel_rfl)
    (fun m _ => fields_cons rfl (by kernel_rfl) (open_s m) (fields_cons rfl (by kernel_rfl) (open38 m) (fields_cons rfl (by kernel_rfl) (open_i m) (fields_one rfl (by kernel_rfl) (open93 m)))))) (fun _ _ => trivial)
def good44 (x : S44) : Prop := x.f1.length ≤ 9223372036854775807 ∧ x.f14.length ≤ 9223372036854775807 ∧ x.f15.length ≤ 9223372036854775807 ∧ (Lit.int .i64 x.f0).wf = true ∧ (Lit.int .i64 x.f5).wf = true ∧ (Lit.int .i64 x.f6).wf = true ∧ (Lit.int .i64 x.f7).wf = true ∧ (Lit.int .i64 x.f10).wf = true ∧ (Lit.int .i64 x.f11).wf = true ∧ (Lit.int .i64 x.f12).wf = true
theorem open_sl {e s : TypeId} {α : Type} {d : Kd α} {good : α → Prop} (ht : Try.prog.underlying s = some (.slice e)) (hs : Try.prog.cellsOf e = d.sz) (h : ∀ n, OpensAt Try.prog e d good n) (n : Nat) : OpensAt Try.prog s (Kd.slice e d) (fun xs => xs.length ≤ 9223372036854775807 ∧ ∀ a ∈ xs, good a) n := opens_slice ht hs (fun m _ => h m)
theorem open44 (n : Nat) : OpensAt Try.prog 44 k44 good44 n :=
  opens_imp (opens_struct (fun x : S44 => (x.f0, x.f1, x.f2, x.f3, x.f4, x.f5, x.f6, x.f7, x.f8, x.f9, x.f10, x.f11, x.f12, x.f13, x.f14, x.f15))
      (fun ⟨p0, p1, p2, p3, p4, p5, p6, p7, p8, p9, p10, p11, p12, p13, p14, p15⟩ => ⟨p0, p1, p2, p3, p4, p5, p6, p7, p8, p9, p10, p11, p12, p13, p14, p15⟩) (fun _ => rfl) Try.underlying44 (by kernel_rfl)
    (fun m _ => fields_cons rfl (by kernel_rfl) (open_i m) <| fields_cons rfl (by kernel_rfl) (open38 m) <| fields_cons rfl (by kernel_rfl) (open_s m) <| fields_cons rfl (by kernel_rfl) (open_i m) <|
      fields_cons rfl (by kernel_rfl) (open_sl (e := 93) (d := k93) (by kernel_rfl) (by kernel_rfl) open93 m) <| fields_cons rfl (by kernel_rfl) (open_i m) <| fields_cons rfl (by kernel_rfl) (open_i m) <| fields_cons rfl (by kernel_rfl) (open_i m) <|
      fields_cons rfl (by kernel_rfl) (open38 m) <| fields_cons rfl (by kernel_rfl) (open38 m) <| fields_cons rfl (by kernel_rfl) (open_i m) <| fields_cons rfl (by kernel_rfl) (open_i m) <| fields_cons rfl (by kernel_rfl) (open_i m) <|
      fields_cons rfl (by kernel_rfl) (open_sl (e := 97) (d := k97) (by kernel_rfl) (by kernel_rfl) open97 m) <| fields_cons rfl (by kernel_rfl) (open_sl (e := 99) (d := k99) (by kernel_rfl) (by kernel_rfl) open99 m) <|
      fields_one rfl (by kernel_rfl) (open_sl (e := 50) (d := k50) (by kernel_rfl) (by kernel_rfl) open50 m)))
    (fun x ⟨h0, h1, h2, h3, h4, h5, h6, h7, h8, h9, h10, h11, h12, h13, h14, h15⟩ => ⟨h1.1, h14.1, h15.1, h0, h5, h6, h7, h10, h11, h12⟩)

theorem open_plan {H : Type} {enc : TypeId × Value → H} {w : World} {sp : Nat → Bool} {held : Bool} {r : Reach} {b0 : Nat} {v : Value} {d : DataW H} {p : List MemPlace}
    (hv : Value.okWide Try.prog w r b0 25 v) (h : DataW.Trod enc Try.prog w 0 sp held 25 v d p) :
    ∃ (A0 : Option Addr) (c0 : Nat) (F : List S95) (A1 : Option Addr) (c1 : Nat) (l : List S44), v = .agg #[.slice A0 F.length c0, .slice A1 l.length c1] ∧ Kd.C k95 w A0 F.length F ∧ F.length ≤ c0 ∧ Kd.C k44 w A1 l.length l ∧ l.length ≤ c1 ∧
      l.length ≤ 9223372036854775807 ∧ ∀ n ∈ l, good44 n := by
  obtain ⟨cs, rfl, hsz⟩ := okWide_struct Try.underlying25 hv
  obtain ⟨fuel, hf⟩ := h
  have ho : OpensAt Try.prog 25 (Kd.iso (Kd.pair (Kd.slice 95 k95) (Kd.slice 44 k44)) (fun x => x)) (fun x => (x.1.length ≤ 9223372036854775807 ∧ ∀ a ∈ x.1, True) ∧ x.2.length ≤ 9223372036854775807 ∧ ∀ a ∈ x.2, good44 a) fuel :=
    opens_struct (fun x => x) (fun p => p) (fun _ => rfl) Try.underlying25 (by kernel_rfl) (fun m _ => fields_cons rfl (by kernel_rfl) (open_sl (e := 95) (d := k95) (by kernel_rfl) (by kernel_rfl) open95 m) (fields_one rfl (by kernel_rfl) (open_sl (e := 44) (d := k44) (by kernel_rfl) (by kernel_rfl) open44 m)))
  obtain ⟨⟨F, l⟩, ⟨q0, q1, hq, ⟨A0, c0, rfl, l0, g0⟩, ⟨A1, c1, rfl, l1, g1⟩⟩, h1, h2, h3⟩ := ho H enc w sp held _ _ hf
  refine ⟨A0, c0, F, A1, c1, l, ?_, g0, l0, g1, l1, h2, h3⟩
  obtain ⟨cs⟩ := cs
  simp only [Value.cells] at hq
  subst hq
  rfl
theorem open_six {H : Type} {enc : TypeId × Value → H} {w : World} {sp : Nat → Bool} {held : Bool} {r : Reach} {b0 : Nat} {v : Value} {d : DataW H} {p : List MemPlace}
    (hv : Value.okWide Try.prog w r b0 27 v) (h : DataW.Trod enc Try.prog w 0 sp held 27 v d p) :
    ∃ a0 a1 a2 a3 a4 a5 : Int, v = .agg #[.int .i64 a0, .int .i64 a1, .int .i64 a2, .int .i64 a3, .int .i64 a4, .int .i64 a5] := by
  obtain ⟨cs, rfl, hsz⟩ := okWide_struct Try.underlying27 hv
  obtain ⟨fuel, hf⟩ := h
  have ho := opens_struct (d := Kd.pair (Kd.int .i64) (Kd.pair (Kd.int .i64) (Kd.pair (Kd.int .i64) (Kd.pair (Kd.int .i64) (Kd.pair (Kd.int .i64) (Kd.int .i64)))))) (fun x => x) (fun p => p) (fun _ => rfl) Try.underlying27 (by kernel_rfl) (n := fuel)
    (fun m _ => fields_cons rfl (by kernel_rfl) (open_i m) <| fields_cons rfl (by kernel_rfl) (open_i m) <| fields_cons rfl (by kernel_rfl) (open_i m) <| fields_cons rfl (by kernel_rfl) (open_i m) <| fields_cons rfl (by kernel_rfl) (open_i m) <| fields_one rfl (by kernel_rfl) (open_i m))
  obtain ⟨⟨a0, a1, a2, a3, a4, a5⟩, ⟨q0, r0, h0, rfl, q1, r1, rfl, rfl, q2, r2, rfl, rfl, q3, r3, rfl, rfl, q4, r4, rfl, rfl, rfl⟩, _⟩ := ho H enc w sp held _ _ hf
  refine ⟨a0, a1, a2, a3, a4, a5, ?_⟩
  obtain ⟨cs⟩ := cs
  simp only [Value.cells] at h0
  subst h0
  rfl
end Go.Proofs.Yteoljddobfnfiaa.My
namespace Go.Proofs.Yteoljddobfnfiaa.My
open Go.RowKit Go.WideShapes Go.Proofs.YteoljddobfnfiaaW.PrintWords Go.Proofs.Yteoljddobfnfiaa.PB
theorem open_node {H : Type} {enc : TypeId × Value → H} {w : World} {sp : Nat → Bool} {held : Bool} {r : Reach} {b0 : Nat} {v : Value} {d : DataW H} {p : List MemPlace}
    (hv : Value.okWide Try.prog w r b0 44 v) (h : DataW.Trod enc Try.prog w 0 sp held 44 v d p) :
    ∃ (x : S44) (A1 : Option Addr) (c1 : Nat) (A4 : Option Addr) (c4 : Nat) (A8 : Option Addr) (c8 : Nat) (A9 : Option Addr) (c9 : Nat) (A13 : Option Addr) (c13 : Nat) (A14 : Option Addr) (c14 : Nat) (A15 : Option Addr) (c15 : Nat),
      v = .agg #[.int .i64 x.f0, .slice A1 x.f1.length c1, .string x.f2, .int .i64 x.f3, .slice A4 x.f4.length c4, .int .i64 x.f5, .int .i64 x.f6, .int .i64 x.f7, .slice A8 x.f8.length c8, .slice A9 x.f9.length c9, .int .i64 x.f10, .int .i64 x.f11, .int .i64 x.f12, .slice A13 x.f13.length c13, .slice A14 x.f14.length c14, .slice A15 x.f15.length c15] ∧
      (x.f1.length ≤ c1 ∧ (Kd.int .i64).C w A1 x.f1.length x.f1 ∧ x.f4.length ≤ c4 ∧ k93.C w A4 x.f4.length x.f4 ∧ x.f8.length ≤ c8 ∧ (Kd.int .i64).C w A8 x.f8.length x.f8 ∧ x.f9.length ≤ c9 ∧ (Kd.int .i64).C w A9 x.f9.length x.f9 ∧
        x.f13.length ≤ c13 ∧ k97.C w A13 x.f13.length x.f13 ∧ x.f14.length ≤ c14 ∧ k99.C w A14 x.f14.length x.f14 ∧ x.f15.length ≤ c15 ∧ k50.C w A15 x.f15.length x.f15) := by
  obtain ⟨cs, rfl, hsz⟩ := okWide_struct Try.underlying44 hv
  obtain ⟨fuel, hf⟩ := h
  obtain ⟨x, hx, _⟩ := open44 fuel H enc w sp held _ _ hf
  obtain ⟨A1, c1, A4, c4, A8, c8, A9, c9, A13, c13, A14, c14, A15, c15, hq, hrest⟩ := k44_open hx
  refine ⟨x, A1, c1, A4, c4, A8, c8, A9, c9, A13, c13, A14, c14, A15, c15, ?_, hrest⟩
  obtain ⟨cs⟩ := cs
  simp only [Value.cells] at hq
  subst hq
  rfl
end Go.Proofs.Yteoljddobfnfiaa.My
end
section
namespace Go.Proofs.Yteoljddobfnfiaa.boundsTells
open Go.ChangeShapes Go.WideShapes Go.ChangeAt Go.RowKit
set_option linter.unusedVariables false
theorem own : ownKnob Try.prog.godebug = none := by kernel_rfl
theorem laidOut : laidOutB Try.prog = true := by kernel_rfl
set_option maxRecDepth 100000 in
theorem lifted (os : Os) (started : os.Started) (H : Type) (enc : TypeId × Value → H) :
    ReturnsInHanded {} Try.checked os 6 .any (Rows.boundsTellsSpec.pre6 enc Try.prog Try.f6 Rows.boundsTellsRow.domain false) (Rows.boundsTellsSpec.post enc Try.prog Try.f6 false true false false) := by
  refine returnsInHanded_of_change_sized (C := Try.checked) own started (by kernel_rfl) Try.func6
    (ChangeSpec.witness6 (enc := enc) (C := Try.checked) false ⟨#[], #[.agg #[.slice none 0 0, .slice none 0 0], .agg #[.int .i64 0, .int .i64 0, .int .i64 0, .int .i64 0, .int .i64 0, .int .i64 0], .agg #[.int .i64 0, .slice none 0 0, .string ByteArray.empty, .int .i64 0, .slice none 0 0, .int .i64 0, .int .i64 0, .int .i64 0, .slice none 0 0, .slice none 0 0, .int .i64 0, .int .i64 0, .int .i64 0, .slice none 0 0, .slice none 0 0, .slice none 0 0], .int .i64 0, .int .i64 0], []⟩ 8 (by kernel_rfl) (by kernel_rfl) (by kernel_rfl) (by kernel_rfl)) ?_
  intro W base args ds gs before hval0 hW hcnd hsz0 _
  have hval : ∀ (j : Nat) t v, Try.f6.params[j]? = some t → args[j]? = some v → Value.okWide Try.prog W .any base t v := hval0
  have hW' := hW
  obtain ⟨p, q, hA0, hV, rfl, hfz, hnd⟩ := hW
  have hA : DataW.TrodAll enc Try.prog W 0 (fun _ => true) true Try.f6.params.toList args.toList ds p := hA0
  rw [Try.params6] at hA hval
  obtain ⟨v0, vs0, d0, ds0, p0, q0, hargs, rfl, rfl, h0, r0⟩ := trodAll_cons hA
  obtain ⟨v1, vs1, d1, ds1, p1, q1, rfl, rfl, rfl, h1, r1⟩ := trodAll_cons r0
  obtain ⟨v2, vs2, d2, ds2, p2, q2, rfl, rfl, rfl, h2, r2⟩ := trodAll_cons r1
  obtain ⟨v3, vs3, d3, ds3, p3, q3, rfl, rfl, rfl, h3, r3⟩ := trodAll_cons r2
  obtain ⟨v4, vs4, d4, ds4, p4, q4, rfl, rfl, rfl, h4, r4⟩ := trodAll_cons r3
  obtain ⟨rfl, rfl, rfl⟩ := trodAll_nil r4
  obtain rfl : args = #[v0, v1, v2, v3, v4] := by cases args; simp_all
  obtain ⟨rfl, rfl⟩ := trodVars_none hV
  have lt0 : ∀ x ∈ p0, x.block < W.heap.size := by obtain ⟨m, hm⟩ := h0; exact DataW.trod_lt m _ _ _ hm
  have lt1 : ∀ x ∈ p1, x.block < W.heap.size := by obtain ⟨m, hm⟩ := h1; exact DataW.trod_lt m _ _ _ hm
  have lt2 : ∀ x ∈ p2, x.block < W.heap.size := by obtain ⟨m, hm⟩ := h2; exact DataW.trod_lt m _ _ _ hm
  obtain ⟨A0, c0, F, A1, c1, l, rfl, g0, k0, g1, k1, hl, hg⟩ := My.open_plan (hval 0 25 v0 rfl rfl) h0
  obtain ⟨a0, a1, a2, a3, a4, a5, rfl⟩ := My.open_six (hval 1 27 v1 rfl rfl) h1
  obtain ⟨x, X1, e1, X4, e4, X8, e8, X9, e9, X13, e13, X14, e14, X15, e15, rfl, y1, z1, y4, z4, y8, z8, y9, z9, y13, z13, y14, z14, y15, z15⟩ := My.open_node (hval 2 44 v2 rfl rfl) h2
  obtain ⟨n3, rfl, rfl, rfl, w3⟩ := open_int Try.underlying3 (hval 3 3 v3 rfl rfl) h3
  obtain ⟨n4, rfl, rfl, rfl, w4⟩ := open_int Try.underlying3 (hval 4 3 v4 rfl rfl) h4
  clear hA0 hval0 hsz0
  obtain ⟨k, hk⟩ := Pure.Tells_true l F hl (fun n hn => (hg n hn).1) a0 a1 a2 a3 a4 a5 x n3 n4
  refine (PB.erratalaw20_BoundsTells.calls k A0 c0 F A1 c1 l a0 a1 a2 a3 a4 a5 x.f0 X1 e1 x.f1 x.f2 x.f3 X4 e4 x.f4 x.f5 x.f6 x.f7 X8 e8 x.f8 X9 e9 x.f9 x.f10 x.f11 x.f12 X13 e13 x.f13 X14 e14 x.f14 X15 e15 x.f15 n3 n4 W g0 k0 g1 k1 z1 y1 z4 y4 z8 y8 z9 y9 z13 y13 z14 y14 z15 y15 hk).mono fun e W' ⟨he, bel⟩ => ?_
  subst he
  exact ⟨_, rfl, _, _, _, [], _, [], hW', trodAll_mk1 (shut_bool Try.underlying4 _), (trodAll_cons_mk (Below.trod laidOut (by kernel_rfl) (of_decide_eq_true (by kernel_rfl)) h0 bel lt0) (trodAll_cons_mk (Below.trod laidOut (by kernel_rfl) (of_decide_eq_true (by kernel_rfl)) h1 bel lt1) (trodAll_cons_mk (Below.trod laidOut (by kernel_rfl) (of_decide_eq_true (by kernel_rfl)) h2 bel lt2) (trodAll_cons_mk (shut_int Try.underlying3 w3) (trodAll_cons_mk (shut_int Try.underlying3 w4) trodAll_mk0))))), rfl, bel.frame _, fun h => by cases h⟩
theorem over : Rows.boundsTellsRow.holds Try.pinned (OpenSpec.ofChange Rows.boundsTellsSpec) :=
  OpenClaim.holds_of_wide 6 Try.f6 rfl rfl rfl rfl rfl rfl rfl ⟨rfl, rfl, rfl, rfl, rfl⟩ rfl rfl rfl rfl rfl (by kernel_rfl) Try.func6 (by kernel_rfl)
    (of_decide_eq_true (by kernel_rfl)) (by unfold Func.isWrapper; first | (rw [if_pos (by decide +kernel)]; kernel_rfl) | (rw [if_neg (by decide +kernel)]; exact ⟨rfl, rfl⟩))
    (fun os started H enc _ => lifted os started H enc)
theorem proved : Rows.BoundsTellsSaid := over
#print axioms proved
end Go.Proofs.Yteoljddobfnfiaa.boundsTells
namespace Go.Proofs.Yteoljddobfnfiaa
theorem boundsTells_holds : Rows.BoundsTellsSaid := boundsTells.proved
end Go.Proofs.Yteoljddobfnfiaa
end
