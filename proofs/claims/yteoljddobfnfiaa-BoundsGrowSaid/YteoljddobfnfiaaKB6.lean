/- erratalaw20.BoundsGrow returns true and leaves its arguments as they were, whatever they are. No condition. -/
import Derived.Test.YteoljddobfnfiaaKB5
import Derived.Deep.Slices
import Derived.ChangeArms
import Derived.WideShapes
import Derived.ProofKit
import Derived.OpenShut
import Derived.ShutString
import Derived.ChangeOld
import Derived.SizedLaws
import Derived.Test.YteoljddobfnfiaaRows
section
namespace Go.Proofs.Yteoljddobfnfiaa.PB
open Go.RowKit Go.Proofs.YteoljddobfnfiaaW.PrintWords Go.Proofs.YteoljddobfnfiaaW.PrintLast Go.Proofs.YteoljddobfnfiaaW.PrintMore
attribute [local go_sem] max2_int min2_int max_two min_two max_three min_three max_four min_four
attribute [local go_sem ↓ high] Go.Proofs.Yteoljddobfnfiaa.My.ld44_eq Go.Proofs.Yteoljddobfnfiaa.My.st44_eq Go.Proofs.Yteoljddobfnfiaa.My.ld27_eq Go.Proofs.Yteoljddobfnfiaa.My.st27_eq Go.Proofs.Yteoljddobfnfiaa.My.ld37_eq Go.Proofs.Yteoljddobfnfiaa.My.st37_eq Go.Proofs.Yteoljddobfnfiaa.My.ld65_eq Go.Proofs.Yteoljddobfnfiaa.My.st65_eq
attribute [local go_sem high] Go.Proofs.Yteoljddobfnfiaa.My.ld44_run Go.Proofs.Yteoljddobfnfiaa.My.st44_run Go.Proofs.Yteoljddobfnfiaa.My.ld27_run Go.Proofs.Yteoljddobfnfiaa.My.st27_run Go.Proofs.Yteoljddobfnfiaa.My.ld37_run Go.Proofs.Yteoljddobfnfiaa.My.st37_run Go.Proofs.Yteoljddobfnfiaa.My.ld65_run Go.Proofs.Yteoljddobfnfiaa.My.st65_run
open Go.Proofs.Yteoljddobfnfiaa.My
attribute [local go_sem] cell_map run_store_fnV one_int one_bool one_string one_slice one_fnV
set_option linter.unusedVariables false
set_option linter.unusedSimpArgs false

mutual
def erratalaw20_BoundsGrow.j0 : Nat → Int → Int → Int → Bool → Bool → List (S95) → List (S44) → Int → Int → Int → Int → Int → Int → Option (Bool)
  | 0, _, _, _, _, _, _, _, _, _, _, _, _, _ => none
  | k + 1, x2, x3, x4, x11, x51, x268000, x268001, x269000, x269001, x269002, x269003, x269004, x269005 => if x51 = true then (some x11) else ((bounds_Analyze.f k x268000 x268001 x269000 x269001 x269002 x269003 x269004 x269005).bind fun bt271 => (if bt271.2.2 = 0 then ((bounds_Analyze.f k x268000 x268001 (wrap64 (x269000 + x2)) x269001 x269002 x269003 (wrap64 (x269004 + x3)) (wrap64 (x269005 + x4))).bind fun bt277 => (if bt277.2.2 = 0 then (if (bt271.1.length : Int) = (bt277.1.length : Int) then (erratalaw20_BoundsGrow.l0 k x11 bt271.1 bt277.1 0 x268000 x268001 x269000 x269001 x269002 x269003 x269004 x269005) else (some false)) else (erratalaw20_BoundsGrow.j3 k x11 bt271.1 x268000 x268001 x269000 x269001 x269002 x269003 x269004 x269005))) else (some x11)))
def erratalaw20_BoundsGrow.j3 : Nat → Bool → List (S37) → List (S95) → List (S44) → Int → Int → Int → Int → Int → Int → Option (Bool)
  | 0, _, _, _, _, _, _, _, _, _, _ => none
  | k + 1, x11, x12, x268000, x268001, x269000, x269001, x269002, x269003, x269004, x269005 => if (x12.length : Int) < 2 then (some x11) else (if 0 ≤ (wrap64 ((x268001.length : Int) - 1)) then (if (wrap64 ((x268001.length : Int) - 1)) ≤ (x268001.length : Int) then ((bounds_Analyze.f k x268000 (x268001.take ((wrap64 ((x268001.length : Int) - 1)) : Int).toNat) x269000 x269001 x269002 x269003 x269004 x269005).bind fun bt295 => (if x11 = true then (if bt295.2.2 = 0 then (if 0 ≤ (wrap64 ((x12.length : Int) - 1)) then (if (wrap64 ((x12.length : Int) - 1)) ≤ (x12.length : Int) then ((errataref20_Same.f k bt295.1 (x12.take ((wrap64 ((x12.length : Int) - 1)) : Int).toNat)).bind fun t304 => (some t304)) else (none)) else (none)) else (some false)) else (some false))) else (none)) else (none))
def erratalaw20_BoundsGrow.l0 : Nat → Bool → List (S37) → List (S37) → Int → List (S95) → List (S44) → Int → Int → Int → Int → Int → Int → Option (Bool)
  | 0, _, _, _, _, _, _, _, _, _, _, _, _ => none
  | k + 1, x11, x12, x16, x19, x268000, x268001, x269000, x269001, x269002, x269003, x269004, x269005 => if x19 < (x12.length : Int) then (if 0 ≤ x19 then (if x19 < (x16.length : Int) then (if ((rd_T37 x12 x19).f0) = ((rd_T37 x16 x19).f0) then (if ((rd_T37 x12 x19).f1) = ((rd_T37 x16 x19).f1) then (if ((rd_T37 x12 x19).f2) > ((rd_T37 x16 x19).f2) then (erratalaw20_BoundsGrow.j2 k x11 x12 x16 x19 true x268000 x268001 x269000 x269001 x269002 x269003 x269004 x269005) else (erratalaw20_BoundsGrow.j2 k x11 x12 x16 x19 (decide (((rd_T37 x12 x19).f3) > ((rd_T37 x16 x19).f3))) x268000 x268001 x269000 x269001 x269002 x269003 x269004 x269005)) else (erratalaw20_BoundsGrow.j2 k x11 x12 x16 x19 true x268000 x268001 x269000 x269001 x269002 x269003 x269004 x269005)) else (erratalaw20_BoundsGrow.j2 k x11 x12 x16 x19 true x268000 x268001 x269000 x269001 x269002 x269003 x269004 x269005)) else (none)) else (none)) else (erratalaw20_BoundsGrow.j3 k x11 x12 x268000 x268001 x269000 x269001 x269002 x269003 x269004 x269005)
def erratalaw20_BoundsGrow.j2 : Nat → Bool → List (S37) → List (S37) → Int → Bool → List (S95) → List (S44) → Int → Int → Int → Int → Int → Int → Option (Bool)
  | 0, _, _, _, _, _, _, _, _, _, _, _, _, _ => none
  | k + 1, x11, x12, x16, x19, x148, x268000, x268001, x269000, x269001, x269002, x269003, x269004, x269005 => if x148 = true then (some false) else (erratalaw20_BoundsGrow.l0 k x11 x12 x16 (wrap64 (x19 + 1)) x268000 x268001 x269000 x269001 x269002 x269003 x269004 x269005)
end
def erratalaw20_BoundsGrow.f (k : Nat) (l0_0 : List (S95)) (l0_1 : List (S44)) (a1_0 : Int) (a1_1 : Int) (a1_2 : Int) (a1_3 : Int) (a1_4 : Int) (a1_5 : Int) (a2 : Int) (a3 : Int) (a4 : Int) : Option (Bool) := (erratalaw20_small.f k).bind fun t269 => ((erratalaw20_few.f k l0_0 l0_1).bind fun t270 => (if t270 = true then (if a2 < 0 then (erratalaw20_BoundsGrow.j0 k a2 a3 a4 t269 true l0_0 l0_1 a1_0 a1_1 a1_2 a1_3 a1_4 a1_5) else (if a2 > 8 then (erratalaw20_BoundsGrow.j0 k a2 a3 a4 t269 true l0_0 l0_1 a1_0 a1_1 a1_2 a1_3 a1_4 a1_5) else (if a3 < 0 then (erratalaw20_BoundsGrow.j0 k a2 a3 a4 t269 true l0_0 l0_1 a1_0 a1_1 a1_2 a1_3 a1_4 a1_5) else (if a3 > 20 then (erratalaw20_BoundsGrow.j0 k a2 a3 a4 t269 true l0_0 l0_1 a1_0 a1_1 a1_2 a1_3 a1_4 a1_5) else (if a4 < 0 then (erratalaw20_BoundsGrow.j0 k a2 a3 a4 t269 true l0_0 l0_1 a1_0 a1_1 a1_2 a1_3 a1_4 a1_5) else (erratalaw20_BoundsGrow.j0 k a2 a3 a4 t269 (decide (a4 > 30000)) l0_0 l0_1 a1_0 a1_1 a1_2 a1_3 a1_4 a1_5)))))) else (erratalaw20_BoundsGrow.j0 k a2 a3 a4 t269 true l0_0 l0_1 a1_0 a1_1 a1_2 a1_3 a1_4 a1_5)))
def erratalaw20_BoundsGrow.T18 : Bool × List (List Nat × List Nat) := (true, [([], []), ([], []), ([0, 1], [0, 1]), ([2], [2]), ([3], [3]), ([], []), ([], []), ([5, 6], [5, 6]), ([7], [7]), ([8], [8]), ([4, 9], [4, 9]), ([10], [10]), ([11], [11]), ([11], [11]), ([12, 13, 11], [11, 12, 13]), ([14, 11], [11, 14]), ([15, 11], [11, 15]), ([11], [11]), ([11], [11]), ([17, 18, 11], [11, 17, 18]), ([19, 11], [11, 19]), ([20, 11], [11, 20]), ([16, 21, 11], [11, 16, 21]), ([11, 22], [11, 22]), ([23, 11], [23]), ([24], [24]), ([24], [24]), ([25, 26, 24], [24, 25, 26]), ([27, 24], [24, 27]), ([28, 24], [24, 28]), ([24], [24]), ([24], [24]), ([30, 31, 24], [24, 30, 31]), ([32, 24], [24, 32]), ([33, 24], [24, 33]), ([29, 34, 24], [24, 29, 34]), ([24, 35], [24, 35]), ([36, 24], [36]), ([37], [37]), ([37], [37]), ([38, 39, 37], [37, 38, 39]), ([40, 37], [37, 40]), ([41, 37], [37, 41]), ([37], [37]), ([37], [37]), ([43, 44, 37], [37, 43, 44]), ([45, 37], [37, 45]), ([46, 37], [37, 46]), ([42, 47, 37], [37, 42, 47]), ([37, 48], [37, 48])])
def erratalaw20_BoundsGrow.B18 : List Nat := [0, 0, 3, 7, 15, 0, 0, 96, 224, 480, 1023, 2047, 4095, 4095, 16383, 32767, 65535, 4095, 4095, 397311, 921599, 1970175, 4194303, 8388607, 16777215, 33554431, 33554431, 134217727, 268435455, 536870911, 33554431, 33554431, 3254779903, 7549747199, 16139681791, 34359738367, 68719476735, 137438953471, 274877906943, 274877906943, 1099511627775, 2199023255551, 4398046511103, 274877906943, 274877906943, 26663156973567, 61847529062399, 132216273240063, 281474976710655, 562949953421311]
theorem erratalaw20_BoundsGrow.tab18 : rtab .any (opsOf Try.f4 18) = erratalaw20_BoundsGrow.T18 := by kernel_rfl
theorem erratalaw20_BoundsGrow.bits18 : waitsOk erratalaw20_BoundsGrow.T18.2 erratalaw20_BoundsGrow.B18 = true := by kernel_rfl
def erratalaw20_BoundsGrow.T22 : Bool × List (List Nat × List Nat) := (true, [([], []), ([0], [0]), ([], []), ([2], [2]), ([], []), ([4], [4]), ([5], [5]), ([6], [6]), ([3, 7], [3, 7]), ([1, 8], [1, 8]), ([], []), ([10, 9, 0, 1, 2, 3, 4, 5, 6, 7, 8, 9, 10], [9, 10])])
def erratalaw20_BoundsGrow.B22 : List Nat := [0, 1, 0, 4, 0, 16, 48, 112, 252, 511, 0, 2047]
theorem erratalaw20_BoundsGrow.tab22 : rtab .any (opsOf Try.f4 22) = erratalaw20_BoundsGrow.T22 := by kernel_rfl
theorem erratalaw20_BoundsGrow.bits22 : waitsOk erratalaw20_BoundsGrow.T22.2 erratalaw20_BoundsGrow.B22 = true := by kernel_rfl
set_option maxHeartbeats 8000000 in
set_option maxRecDepth 100000 in
theorem erratalaw20_BoundsGrow.calls (k : Nat) (A0_0 : Option Addr) (c0_0 : Nat) (l0_0 : List (S95)) (A0_1 : Option Addr) (c0_1 : Nat) (l0_1 : List (S44)) (a1_0 : Int) (a1_1 : Int) (a1_2 : Int) (a1_3 : Int) (a1_4 : Int) (a1_5 : Int) (a2 : Int) (a3 : Int) (a4 : Int) (w : World) (hr0_0 : Kd.C k95 w A0_0 l0_0.length l0_0) (hc0_0 : l0_0.length ≤ c0_0) (hr0_1 : Kd.C k44 w A0_1 l0_1.length l0_1) (hc0_1 : l0_1.length ≤ c0_1) (h : erratalaw20_BoundsGrow.f k l0_0 l0_1 a1_0 a1_1 a1_2 a1_3 a1_4 a1_5 a2 a3 a4 = some true) :
    Calls Try.prog 4 #[.agg #[.slice A0_0 l0_0.length c0_0, .slice A0_1 l0_1.length c0_1], .agg #[.int .i64 a1_0, .int .i64 a1_1, .int .i64 a1_2, .int .i64 a1_3, .int .i64 a1_4, .int .i64 a1_5], .int .i64 a2, .int .i64 a3, .int .i64 a4] w fun e w' => e = .returned (.bool true) ∧ Below w.heap.size w w' := by
 have hu25 := Try.underlying25
 have hu27 := Try.underlying27
 have HR0_0 := Aside0.mk hr0_0
 have HC0_0 := Aside0.mk hc0_0
 clear hr0_0 hc0_0
 have HR0_1 := Aside0.mk hr0_1
 have HC0_1 := Aside0.mk hc0_1
 clear hr0_1 hc0_1
 have HB := Aside0.mk (Below.refl w.heap.size w)
 have H : ((erratalaw20_small.f k).bind fun t269 => ((erratalaw20_few.f k l0_0 l0_1).bind fun t270 => (if t270 = true then (if a2 < 0 then (erratalaw20_BoundsGrow.j0 k a2 a3 a4 t269 true l0_0 l0_1 a1_0 a1_1 a1_2 a1_3 a1_4 a1_5) else (if a2 > 8 then (erratalaw20_BoundsGrow.j0 k a2 a3 a4 t269 true l0_0 l0_1 a1_0 a1_1 a1_2 a1_3 a1_4 a1_5) else (if a3 < 0 then (erratalaw20_BoundsGrow.j0 k a2 a3 a4 t269 true l0_0 l0_1 a1_0 a1_1 a1_2 a1_3 a1_4 a1_5) else (if a3 > 20 then (erratalaw20_BoundsGrow.j0 k a2 a3 a4 t269 true l0_0 l0_1 a1_0 a1_1 a1_2 a1_3 a1_4 a1_5) else (if a4 < 0 then (erratalaw20_BoundsGrow.j0 k a2 a3 a4 t269 true l0_0 l0_1 a1_0 a1_1 a1_2 a1_3 a1_4 a1_5) else (erratalaw20_BoundsGrow.j0 k a2 a3 a4 t269 (decide (a4 > 30000)) l0_0 l0_1 a1_0 a1_1 a1_2 a1_3 a1_4 a1_5)))))) else (erratalaw20_BoundsGrow.j0 k a2 a3 a4 t269 true l0_0 l0_1 a1_0 a1_1 a1_2 a1_3 a1_4 a1_5)))) = some true := h
 clear h
 replace H := Option.bind_eq_some_iff.mp H
 obtain ⟨t269, A60, H⟩ := H
 replace H : ((erratalaw20_few.f k l0_0 l0_1).bind fun t270 => (if t270 = true then (if a2 < 0 then (erratalaw20_BoundsGrow.j0 k a2 a3 a4 t269 true l0_0 l0_1 a1_0 a1_1 a1_2 a1_3 a1_4 a1_5) else (if a2 > 8 then (erratalaw20_BoundsGrow.j0 k a2 a3 a4 t269 true l0_0 l0_1 a1_0 a1_1 a1_2 a1_3 a1_4 a1_5) else (if a3 < 0 then (erratalaw20_BoundsGrow.j0 k a2 a3 a4 t269 true l0_0 l0_1 a1_0 a1_1 a1_2 a1_3 a1_4 a1_5) else (if a3 > 20 then (erratalaw20_BoundsGrow.j0 k a2 a3 a4 t269 true l0_0 l0_1 a1_0 a1_1 a1_2 a1_3 a1_4 a1_5) else (if a4 < 0 then (erratalaw20_BoundsGrow.j0 k a2 a3 a4 t269 true l0_0 l0_1 a1_0 a1_1 a1_2 a1_3 a1_4 a1_5) else (erratalaw20_BoundsGrow.j0 k a2 a3 a4 t269 (decide (a4 > 30000)) l0_0 l0_1 a1_0 a1_1 a1_2 a1_3 a1_4 a1_5)))))) else (erratalaw20_BoundsGrow.j0 k a2 a3 a4 t269 true l0_0 l0_1 a1_0 a1_1 a1_2 a1_3 a1_4 a1_5))) = some true := H
 have A6 := Aside0.mk A60
 clear A60
 have HC7 := Aside0.mk H
 clear H
 go_enter Try.func4, Try.ntmps4
 go_upto_region 2 with (first | ((with_reducible refine gate_dst (N := 5) rfl ?_); (try (refine gate_guard (by rfl) ?_; dsimp only)); refine box_event ?hg (N := 5) ?hd (cs := #[.slice A0_0 l0_0.length c0_0, .slice A0_1 l0_1.length c0_1]) (t := 25) ?hr ?_; (case hd => rfl); (case hg => rfl); (case hr => first | (go_simp; done) | (go_simp; rfl)); intro gb267 hg w8 hbox hb; have n0_ := Aside0.mk (below_stepA hb); have n1_ := Aside0.mk (hbox); have n2_ := Aside0.mk ((by rw [hg]; exact below_sizeA : w.heap.size ≤ gb267)); have n3_ := Aside0.mk ((by rw [hg]; exact below_sizeA : w.heap.size ≤ gb267)); clear HB; have HB := n0_; have BK267 := n1_; have GW267 := n2_; have GE267 := n3_; clear n0_ n1_ n2_ n3_; clear hb hbox hg) | ((with_reducible refine gate_dst (N := 6) rfl ?_); (try (refine gate_guard (by rfl) ?_; dsimp only)); refine box_event ?hg (N := 6) ?hd (cs := #[.int .i64 a1_0, .int .i64 a1_1, .int .i64 a1_2, .int .i64 a1_3, .int .i64 a1_4, .int .i64 a1_5]) (t := 27) ?hr ?_; (case hd => rfl); (case hg => rfl); (case hr => first | (go_simp; done) | (go_simp; rfl)); intro gb268 hg w9 hbox hb; have n0_ := Aside0.mk (blk_keepA BK267.out hb); have n1_ := Aside0.mk (below_stepA hb); have n2_ := Aside0.mk (hbox); have n3_ := Aside0.mk ((by rw [hg]; exact below_sizeA : w.heap.size ≤ gb268)); have n4_ := Aside0.mk ((by rw [hg]; exact below_sizeA : w.heap.size ≤ gb268)); have n5_ := Aside0.mk ((by rw [hg]; exact Nat.ne_of_lt (blk_ltKA BK267.out) : gb267 ≠ gb268)); have n6_ := Aside0.mk ((by rw [hg]; exact Nat.ne_of_gt (blk_ltKA BK267.out) : gb268 ≠ gb267)); clear BK267; clear HB; have BK267 := n0_; have HB := n1_; have BK268 := n2_; have GW268 := n3_; have GE268 := n4_; have NB267_268 := n5_; have NB268_267 := n6_; clear n0_ n1_ n2_ n3_ n4_ n5_ n6_; clear hb hbox hg) | ((with_reducible refine gate_callee (f := 7) rfl ?_); refine goesL_ (some 24) rfl rfl Try.func7 (by kernel_rfl) rfl #[] rfl (by (try simp only [List.map_toArray, List.map_cons, List.map_nil]); first | done | rfl | (simp only [List.length_drop, List.length_take]; rfl)) ?_; (with_reducible refine (erratalaw20_small.calls k  t269 _ A6.out).mono ?_); rintro e w10 ⟨rfl, hb⟩; refine ⟨_, rfl, ?_⟩; have n0_ := Aside0.mk (blk_keepA BK267.out hb); have n1_ := Aside0.mk (blk_keepA BK268.out hb); have n2_ := Aside0.mk (below_stepA hb); clear BK267; clear BK268; clear HB; have BK267 := n0_; have BK268 := n1_; have HB := n2_; clear n0_ n1_ n2_; (try clear hb); (try clear hb2); (try clear hk); (try clear hi)))
 (try simp only [Act.put, List.setIfInBounds_toArray, List.set_cons_zero, List.set_cons_succ])
 go_cut [51] (fun v51 wc => ∃ (kq : Nat) (x51_6 : Bool), v51 = .bool x51_6 ∧ Aside0 (erratalaw20_BoundsGrow.j0 kq a2 a3 a4 t269 x51_6 l0_0 l0_1 a1_0 a1_1 a1_2 a1_3 a1_4 a1_5 = some true) ∧ Aside0 (kq ≤ k) ∧ Aside0 (wc.heap[gb267]? = some (.cells #[(.slice A0_0 l0_0.length c0_0), (.slice A0_1 l0_1.length c0_1)] 25 (0, 0))) ∧ Aside0 (wc.heap[gb268]? = some (.cells #[.int .i64 a1_0, .int .i64 a1_1, .int .i64 a1_2, .int .i64 a1_3, .int .i64 a1_4, .int .i64 a1_5] 27 (0, 0))) ∧ Aside0 (Below w.heap.size w wc))
 case first =>
  have H := HC7.out
  clear HC7
  replace H := Option.bind_eq_some_iff.mp H
  obtain ⟨t270, A110, H⟩ := H
  replace H : (if t270 = true then (if a2 < 0 then (erratalaw20_BoundsGrow.j0 k a2 a3 a4 t269 true l0_0 l0_1 a1_0 a1_1 a1_2 a1_3 a1_4 a1_5) else (if a2 > 8 then (erratalaw20_BoundsGrow.j0 k a2 a3 a4 t269 true l0_0 l0_1 a1_0 a1_1 a1_2 a1_3 a1_4 a1_5) else (if a3 < 0 then (erratalaw20_BoundsGrow.j0 k a2 a3 a4 t269 true l0_0 l0_1 a1_0 a1_1 a1_2 a1_3 a1_4 a1_5) else (if a3 > 20 then (erratalaw20_BoundsGrow.j0 k a2 a3 a4 t269 true l0_0 l0_1 a1_0 a1_1 a1_2 a1_3 a1_4 a1_5) else (if a4 < 0 then (erratalaw20_BoundsGrow.j0 k a2 a3 a4 t269 true l0_0 l0_1 a1_0 a1_1 a1_2 a1_3 a1_4 a1_5) else (erratalaw20_BoundsGrow.j0 k a2 a3 a4 t269 (decide (a4 > 30000)) l0_0 l0_1 a1_0 a1_1 a1_2 a1_3 a1_4 a1_5)))))) else (erratalaw20_BoundsGrow.j0 k a2 a3 a4 t269 true l0_0 l0_1 a1_0 a1_1 a1_2 a1_3 a1_4 a1_5)) = some true := H
  have A11 := Aside0.mk A110
  clear A110
  by_cases c12 : t270 = true
  ·
   subst c12
   have H1 : (if a2 < 0 then (erratalaw20_BoundsGrow.j0 k a2 a3 a4 t269 true l0_0 l0_1 a1_0 a1_1 a1_2 a1_3 a1_4 a1_5) else (if a2 > 8 then (erratalaw20_BoundsGrow.j0 k a2 a3 a4 t269 true l0_0 l0_1 a1_0 a1_1 a1_2 a1_3 a1_4 a1_5) else (if a3 < 0 then (erratalaw20_BoundsGrow.j0 k a2 a3 a4 t269 true l0_0 l0_1 a1_0 a1_1 a1_2 a1_3 a1_4 a1_5) else (if a3 > 20 then (erratalaw20_BoundsGrow.j0 k a2 a3 a4 t269 true l0_0 l0_1 a1_0 a1_1 a1_2 a1_3 a1_4 a1_5) else (if a4 < 0 then (erratalaw20_BoundsGrow.j0 k a2 a3 a4 t269 true l0_0 l0_1 a1_0 a1_1 a1_2 a1_3 a1_4 a1_5) else (erratalaw20_BoundsGrow.j0 k a2 a3 a4 t269 (decide (a4 > 30000)) l0_0 l0_1 a1_0 a1_1 a1_2 a1_3 a1_4 a1_5)))))) = some true := by rw [if_pos rfl] at H; exact H
   clear H
   have H := H1
   clear H1
   by_cases c13 : a2 < 0
   ·
    rw [if_pos c13] at H
    have c13b0 : decide (a2 < 0) = true := decide_eq_true c13
    clear c13
    (first | rw [c13b0] | (simp only [i64_w, i32_w]; rw [c13b0]) | skip)
    have H' := Aside0.mk H
    clear H
    have hnb14 := NB267_268.out
    have hnc14 := NB268_267.out
    obtain ⟨hcz15_0, hcz15_1, hfz15_0, hfz15_1⟩ := blk2 BK267.out
    go_wp2_with (first | ((with_reducible refine gate_callee (f := 8) rfl ?_); refine goesL_ (some 26) rfl rfl Try.func8 (by kernel_rfl) rfl #[.agg #[.slice A0_0 l0_0.length c0_0, .slice A0_1 l0_1.length c0_1]] rfl (by (try simp only [List.map_toArray, List.map_cons, List.map_nil]); first | done | rfl | (simp only [List.length_drop, List.length_take]; rfl)) ?_; (with_reducible refine (erratalaw20_few.calls k _ _ l0_0 _ _ l0_1 true _ ?side1 ?side2 ?side3 ?side4 A11.out).mono ?_); (case side1 => exact c_belowA HR0_0.out); (case side2 => exact HC0_0.out); (case side3 => exact c_belowA HR0_1.out); (case side4 => exact HC0_1.out); rintro e w16 ⟨rfl, hb⟩; refine ⟨_, rfl, ?_⟩; have n0_ := Aside0.mk (blk_keepA BK267.out hb); have n1_ := Aside0.mk (blk_keepA BK268.out hb); have n2_ := Aside0.mk (below_stepA hb); clear BK267; clear BK268; clear HB; have BK267 := n0_; have BK268 := n1_; have HB := n2_; clear n0_ n1_ n2_; (try clear hb); (try clear hb2); (try clear hk); (try clear hi)))
    go_meet
    case rel => exact ⟨_, (true), (by first | rfl | (simp; done) | (simp [*]; done)), H', ⟨by first | omega | exact Nat.le_refl _⟩, ⟨by (with_reducible repeat (first | refine blk_drewN ?_ _ | refine blk_drew ?_ | refine blk_alloc ?_ _)); exact BK267.out⟩, ⟨by (with_reducible repeat (first | refine blk_drewN ?_ _ | refine blk_drew ?_ | refine blk_alloc ?_ _)); exact BK268.out⟩, ⟨by repeat (first | (with_reducible first | exact HB.out | apply below_alloc | apply pw_below_drewN | apply below_drew1 | refine below_set ?_ GE267.out | refine below_set ?_ GE268.out) | exact HB.out)⟩⟩
   ·
    rw [if_neg c13] at H
    have c13b0 : decide (a2 < 0) = false := decide_eq_false c13
    clear c13
    (first | rw [c13b0] | (simp only [i64_w, i32_w]; rw [c13b0]) | skip)
    by_cases c17 : a2 > 8
    ·
     rw [if_pos c17] at H
     have c17b0 : decide (8 < a2) = true := decide_eq_true c17
     clear c17
     have H' := Aside0.mk H
     clear H
     have hnb18 := NB267_268.out
     have hnc18 := NB268_267.out
     obtain ⟨hcz19_0, hcz19_1, hfz19_0, hfz19_1⟩ := blk2 BK267.out
     go_wp2_with (first | ((with_reducible refine gate_callee (f := 8) rfl ?_); refine goesL_ (some 26) rfl rfl Try.func8 (by kernel_rfl) rfl #[.agg #[.slice A0_0 l0_0.length c0_0, .slice A0_1 l0_1.length c0_1]] rfl (by (try simp only [List.map_toArray, List.map_cons, List.map_nil]); first | done | rfl | (simp only [List.length_drop, List.length_take]; rfl)) ?_; (with_reducible refine (erratalaw20_few.calls k _ _ l0_0 _ _ l0_1 true _ ?side1 ?side2 ?side3 ?side4 A11.out).mono ?_); (case side1 => exact c_belowA HR0_0.out); (case side2 => exact HC0_0.out); (case side3 => exact c_belowA HR0_1.out); (case side4 => exact HC0_1.out); rintro e w20 ⟨rfl, hb⟩; refine ⟨_, rfl, ?_⟩; have n0_ := Aside0.mk (blk_keepA BK267.out hb); have n1_ := Aside0.mk (blk_keepA BK268.out hb); have n2_ := Aside0.mk (below_stepA hb); clear BK267; clear BK268; clear HB; have BK267 := n0_; have BK268 := n1_; have HB := n2_; clear n0_ n1_ n2_; (try clear hb); (try clear hb2); (try clear hk); (try clear hi)))
     go_meet
     case rel => exact ⟨_, (true), (by first | rfl | (simp; done) | (simp [*]; done)), H', ⟨by first | omega | exact Nat.le_refl _⟩, ⟨by (with_reducible repeat (first | refine blk_drewN ?_ _ | refine blk_drew ?_ | refine blk_alloc ?_ _)); exact BK267.out⟩, ⟨by (with_reducible repeat (first | refine blk_drewN ?_ _ | refine blk_drew ?_ | refine blk_alloc ?_ _)); exact BK268.out⟩, ⟨by repeat (first | (with_reducible first | exact HB.out | apply below_alloc | apply pw_below_drewN | apply below_drew1 | refine below_set ?_ GE267.out | refine below_set ?_ GE268.out) | exact HB.out)⟩⟩
    ·
     rw [if_neg c17] at H
     have c17b0 : decide (8 < a2) = false := decide_eq_false c17
     clear c17
     by_cases c21 : a3 < 0
     ·
      rw [if_pos c21] at H
      have c21b0 : decide (a3 < 0) = true := decide_eq_true c21
      clear c21
      have H' := Aside0.mk H
      clear H
      have hnb22 := NB267_268.out
      have hnc22 := NB268_267.out
      obtain ⟨hcz23_0, hcz23_1, hfz23_0, hfz23_1⟩ := blk2 BK267.out
      go_wp2_with (first | ((with_reducible refine gate_callee (f := 8) rfl ?_); refine goesL_ (some 26) rfl rfl Try.func8 (by kernel_rfl) rfl #[.agg #[.slice A0_0 l0_0.length c0_0, .slice A0_1 l0_1.length c0_1]] rfl (by (try simp only [List.map_toArray, List.map_cons, List.map_nil]); first | done | rfl | (simp only [List.length_drop, List.length_take]; rfl)) ?_; (with_reducible refine (erratalaw20_few.calls k _ _ l0_0 _ _ l0_1 true _ ?side1 ?side2 ?side3 ?side4 A11.out).mono ?_); (case side1 => exact c_belowA HR0_0.out); (case side2 => exact HC0_0.out); (case side3 => exact c_belowA HR0_1.out); (case side4 => exact HC0_1.out); rintro e w24 ⟨rfl, hb⟩; refine ⟨_, rfl, ?_⟩; have n0_ := Aside0.mk (blk_keepA BK267.out hb); have n1_ := Aside0.mk (blk_keepA BK268.out hb); have n2_ := Aside0.mk (below_stepA hb); clear BK267; clear BK268; clear HB; have BK267 := n0_; have BK268 := n1_; have HB := n2_; clear n0_ n1_ n2_; (try clear hb); (try clear hb2); (try clear hk); (try clear hi)))
      go_meet
      case rel => exact ⟨_, (true), (by first | rfl | (simp; done) | (simp [*]; done)), H', ⟨by first | omega | exact Nat.le_refl _⟩, ⟨by (with_reducible repeat (first | refine blk_drewN ?_ _ | refine blk_drew ?_ | refine blk_alloc ?_ _)); exact BK267.out⟩, ⟨by (with_reducible repeat (first | refine blk_drewN ?_ _ | refine blk_drew ?_ | refine blk_alloc ?_ _)); exact BK268.out⟩, ⟨by repeat (first | (with_reducible first | exact HB.out | apply below_alloc | apply pw_below_drewN | apply below_drew1 | refine below_set ?_ GE267.out | refine below_set ?_ GE268.out) | exact HB.out)⟩⟩
     ·
      rw [if_neg c21] at H
      have c21b0 : decide (a3 < 0) = false := decide_eq_false c21
      clear c21
      by_cases c25 : a3 > 20
      ·
       rw [if_pos c25] at H
       have c25b0 : decide (20 < a3) = true := decide_eq_true c25
       clear c25
       have H' := Aside0.mk H
       clear H
       have hnb26 := NB267_268.out
       have hnc26 := NB268_267.out
       obtain ⟨hcz27_0, hcz27_1, hfz27_0, hfz27_1⟩ := blk2 BK267.out
       go_wp2_with (first | ((with_reducible refine gate_callee (f := 8) rfl ?_); refine goesL_ (some 26) rfl rfl Try.func8 (by kernel_rfl) rfl #[.agg #[.slice A0_0 l0_0.length c0_0, .slice A0_1 l0_1.length c0_1]] rfl (by (try simp only [List.map_toArray, List.map_cons, List.map_nil]); first | done | rfl | (simp only [List.length_drop, List.length_take]; rfl)) ?_; (with_reducible refine (erratalaw20_few.calls k _ _ l0_0 _ _ l0_1 true _ ?side1 ?side2 ?side3 ?side4 A11.out).mono ?_); (case side1 => exact c_belowA HR0_0.out); (case side2 => exact HC0_0.out); (case side3 => exact c_belowA HR0_1.out); (case side4 => exact HC0_1.out); rintro e w28 ⟨rfl, hb⟩; refine ⟨_, rfl, ?_⟩; have n0_ := Aside0.mk (blk_keepA BK267.out hb); have n1_ := Aside0.mk (blk_keepA BK268.out hb); have n2_ := Aside0.mk (below_stepA hb); clear BK267; clear BK268; clear HB; have BK267 := n0_; have BK268 := n1_; have HB := n2_; clear n0_ n1_ n2_; (try clear hb); (try clear hb2); (try clear hk); (try clear hi)))
       go_meet
       case rel => exact ⟨_, (true), (by first | rfl | (simp; done) | (simp [*]; done)), H', ⟨by first | omega | exact Nat.le_refl _⟩, ⟨by (with_reducible repeat (first | refine blk_drewN ?_ _ | refine blk_drew ?_ | refine blk_alloc ?_ _)); exact BK267.out⟩, ⟨by (with_reducible repeat (first | refine blk_drewN ?_ _ | refine blk_drew ?_ | refine blk_alloc ?_ _)); exact BK268.out⟩, ⟨by repeat (first | (with_reducible first | exact HB.out | apply below_alloc | apply pw_below_drewN | apply below_drew1 | refine below_set ?_ GE267.out | refine below_set ?_ GE268.out) | exact HB.out)⟩⟩
      ·
       rw [if_neg c25] at H
       have c25b0 : decide (20 < a3) = false := decide_eq_false c25
       clear c25
       by_cases c29 : a4 < 0
       ·
        rw [if_pos c29] at H
        have c29b0 : decide (a4 < 0) = true := decide_eq_true c29
        clear c29
        have H' := Aside0.mk H
        clear H
        have hnb30 := NB267_268.out
        have hnc30 := NB268_267.out
        obtain ⟨hcz31_0, hcz31_1, hfz31_0, hfz31_1⟩ := blk2 BK267.out
        go_wp2_with (first | ((with_reducible refine gate_callee (f := 8) rfl ?_); refine goesL_ (some 26) rfl rfl Try.func8 (by kernel_rfl) rfl #[.agg #[.slice A0_0 l0_0.length c0_0, .slice A0_1 l0_1.length c0_1]] rfl (by (try simp only [List.map_toArray, List.map_cons, List.map_nil]); first | done | rfl | (simp only [List.length_drop, List.length_take]; rfl)) ?_; (with_reducible refine (erratalaw20_few.calls k _ _ l0_0 _ _ l0_1 true _ ?side1 ?side2 ?side3 ?side4 A11.out).mono ?_); (case side1 => exact c_belowA HR0_0.out); (case side2 => exact HC0_0.out); (case side3 => exact c_belowA HR0_1.out); (case side4 => exact HC0_1.out); rintro e w32 ⟨rfl, hb⟩; refine ⟨_, rfl, ?_⟩; have n0_ := Aside0.mk (blk_keepA BK267.out hb); have n1_ := Aside0.mk (blk_keepA BK268.out hb); have n2_ := Aside0.mk (below_stepA hb); clear BK267; clear BK268; clear HB; have BK267 := n0_; have BK268 := n1_; have HB := n2_; clear n0_ n1_ n2_; (try clear hb); (try clear hb2); (try clear hk); (try clear hi)))
        go_meet
        case rel => exact ⟨_, (true), (by first | rfl | (simp; done) | (simp [*]; done)), H', ⟨by first | omega | exact Nat.le_refl _⟩, ⟨by (with_reducible repeat (first | refine blk_drewN ?_ _ | refine blk_drew ?_ | refine blk_alloc ?_ _)); exact BK267.out⟩, ⟨by (with_reducible repeat (first | refine blk_drewN ?_ _ | refine blk_drew ?_ | refine blk_alloc ?_ _)); exact BK268.out⟩, ⟨by repeat (first | (with_reducible first | exact HB.out | apply below_alloc | apply pw_below_drewN | apply below_drew1 | refine below_set ?_ GE267.out | refine below_set ?_ GE268.out) | exact HB.out)⟩⟩
       ·
        rw [if_neg c29] at H
        have c29b0 : decide (a4 < 0) = false := decide_eq_false c29
        clear c29
        have H' := Aside0.mk H
        clear H
        have hnb33 := NB267_268.out
        have hnc33 := NB268_267.out
        obtain ⟨hcz34_0, hcz34_1, hfz34_0, hfz34_1⟩ := blk2 BK267.out
        go_wp2_with (first | ((with_reducible refine gate_callee (f := 8) rfl ?_); refine goesL_ (some 26) rfl rfl Try.func8 (by kernel_rfl) rfl #[.agg #[.slice A0_0 l0_0.length c0_0, .slice A0_1 l0_1.length c0_1]] rfl (by (try simp only [List.map_toArray, List.map_cons, List.map_nil]); first | done | rfl | (simp only [List.length_drop, List.length_take]; rfl)) ?_; (with_reducible refine (erratalaw20_few.calls k _ _ l0_0 _ _ l0_1 true _ ?side1 ?side2 ?side3 ?side4 A11.out).mono ?_); (case side1 => exact c_belowA HR0_0.out); (case side2 => exact HC0_0.out); (case side3 => exact c_belowA HR0_1.out); (case side4 => exact HC0_1.out); rintro e w35 ⟨rfl, hb⟩; refine ⟨_, rfl, ?_⟩; have n0_ := Aside0.mk (blk_keepA BK267.out hb); have n1_ := Aside0.mk (blk_keepA BK268.out hb); have n2_ := Aside0.mk (below_stepA hb); clear BK267; clear BK268; clear HB; have BK267 := n0_; have BK268 := n1_; have HB := n2_; clear n0_ n1_ n2_; (try clear hb); (try clear hb2); (try clear hk); (try clear hi)))
        go_meet
        case rel => exact ⟨_, (decide (a4 > 30000)), (by first | rfl | (simp; done) | (simp [*]; done)), H', ⟨by first | omega | exact Nat.le_refl _⟩, ⟨by (with_reducible repeat (first | refine blk_drewN ?_ _ | refine blk_drew ?_ | refine blk_alloc ?_ _)); exact BK267.out⟩, ⟨by (with_reducible repeat (first | refine blk_drewN ?_ _ | refine blk_drew ?_ | refine blk_alloc ?_ _)); exact BK268.out⟩, ⟨by repeat (first | (with_reducible first | exact HB.out | apply below_alloc | apply pw_below_drewN | apply below_drew1 | refine below_set ?_ GE267.out | refine below_set ?_ GE268.out) | exact HB.out)⟩⟩
  ·
   replace c12 := Bool.eq_false_iff.mpr c12
   subst c12
   have H1 : (erratalaw20_BoundsGrow.j0 k a2 a3 a4 t269 true l0_0 l0_1 a1_0 a1_1 a1_2 a1_3 a1_4 a1_5) = some true := by rw [if_neg (show ¬ (false = true) by decide)] at H; exact H
   clear H
   have H := H1
   clear H1
   have H' := Aside0.mk H
   clear H
   have hnb36 := NB267_268.out
   have hnc36 := NB268_267.out
   obtain ⟨hcz37_0, hcz37_1, hfz37_0, hfz37_1⟩ := blk2 BK267.out
   go_wp2_with (first | ((with_reducible refine gate_callee (f := 8) rfl ?_); refine goesL_ (some 26) rfl rfl Try.func8 (by kernel_rfl) rfl #[.agg #[.slice A0_0 l0_0.length c0_0, .slice A0_1 l0_1.length c0_1]] rfl (by (try simp only [List.map_toArray, List.map_cons, List.map_nil]); first | done | rfl | (simp only [List.length_drop, List.length_take]; rfl)) ?_; (with_reducible refine (erratalaw20_few.calls k _ _ l0_0 _ _ l0_1 false _ ?side1 ?side2 ?side3 ?side4 A11.out).mono ?_); (case side1 => exact c_belowA HR0_0.out); (case side2 => exact HC0_0.out); (case side3 => exact c_belowA HR0_1.out); (case side4 => exact HC0_1.out); rintro e w38 ⟨rfl, hb⟩; refine ⟨_, rfl, ?_⟩; have n0_ := Aside0.mk (blk_keepA BK267.out hb); have n1_ := Aside0.mk (blk_keepA BK268.out hb); have n2_ := Aside0.mk (below_stepA hb); clear BK267; clear BK268; clear HB; have BK267 := n0_; have BK268 := n1_; have HB := n2_; clear n0_ n1_ n2_; (try clear hb); (try clear hb2); (try clear hk); (try clear hi)))
   go_meet
   case rel => exact ⟨_, (true), (by first | rfl | (simp; done) | (simp [*]; done)), H', ⟨by first | omega | exact Nat.le_refl _⟩, ⟨by (with_reducible repeat (first | refine blk_drewN ?_ _ | refine blk_drew ?_ | refine blk_alloc ?_ _)); exact BK267.out⟩, ⟨by (with_reducible repeat (first | refine blk_drewN ?_ _ | refine blk_drew ?_ | refine blk_alloc ?_ _)); exact BK268.out⟩, ⟨by repeat (first | (with_reducible first | exact HB.out | apply below_alloc | apply pw_below_drewN | apply below_drew1 | refine below_set ?_ GE267.out | refine below_set ?_ GE268.out) | exact HB.out)⟩⟩
 case rest =>
  clear HC7
  try clear c1
  try clear c2
  try clear p2
  try clear c3
  try clear c4
  try clear c7
  try clear c8
  try clear c12
  try clear c13
  try clear c13b0
  try clear c14
  try clear c17
  try clear c17b0
  try clear c18
  try clear c21
  try clear c21b0
  try clear c22
  try clear c25
  try clear c25b0
  try clear c26
  try clear c29
  try clear c29b0
  try clear c30
  try clear c33
  try clear c36
  try clear hcz15_0
  try clear hcz15_1
  try clear hcz19_0
  try clear hcz19_1
  try clear hcz23_0
  try clear hcz23_1
  try clear hcz27_0
  try clear hcz27_1
  try clear hcz31_0
  try clear hcz31_1
  try clear hcz34_0
  try clear hcz34_1
  try clear hcz37_0
  try clear hcz37_1
  try clear hfz15_0
  try clear hfz15_1
  try clear hfz19_0
  try clear hfz19_1
  try clear hfz23_0
  try clear hfz23_1
  try clear hfz27_0
  try clear hfz27_1
  try clear hfz31_0
  try clear hfz31_1
  try clear hfz34_0
  try clear hfz34_1
  try clear hfz37_0
  try clear hfz37_1
  obtain ⟨kq, x51_6, rfl, HA, HJ6, BK267, BK268, HB⟩ := hcut
  cases kq with
  | zero => exact absurd HA.out (by simp [erratalaw20_BoundsGrow.j0])
  | succ kj6 =>
   have H := HA.out
   clear HA
   simp only [erratalaw20_BoundsGrow.j0] at H
   by_cases c39 : x51_6 = true
   ·
    subst c39
    have H1 : (some t269) = some true := by rw [if_pos rfl] at H; exact H
    clear H
    have H := H1
    clear H1
    obtain rfl := Option.some.inj H
    go_wp2
    go_ret
    exact ⟨by first | rfl | (simp [errW_none, errW_some] <;> rfl) | (simp [*, errW_none, errW_some] <;> rfl), by repeat (first | (with_reducible first | exact HB.out | apply below_alloc | apply pw_below_drewN | apply below_drew1 | refine below_set ?_ GE267.out | refine below_set ?_ GE268.out) | exact HB.out)⟩
   ·
    replace c39 := Bool.eq_false_iff.mpr c39
    subst c39
    have H1 : ((bounds_Analyze.f kj6 l0_0 l0_1 a1_0 a1_1 a1_2 a1_3 a1_4 a1_5).bind fun bt271 => (if bt271.2.2 = 0 then ((bounds_Analyze.f kj6 l0_0 l0_1 (wrap64 (a1_0 + a2)) a1_1 a1_2 a1_3 (wrap64 (a1_4 + a3)) (wrap64 (a1_5 + a4))).bind fun bt277 => (if bt277.2.2 = 0 then (if (bt271.1.length : Int) = (bt277.1.length : Int) then (erratalaw20_BoundsGrow.l0 kj6 t269 bt271.1 bt277.1 0 l0_0 l0_1 a1_0 a1_1 a1_2 a1_3 a1_4 a1_5) else (some false)) else (erratalaw20_BoundsGrow.j3 kj6 t269 bt271.1 l0_0 l0_1 a1_0 a1_1 a1_2 a1_3 a1_4 a1_5))) else (some t269))) = some true := by rw [if_neg (show ¬ (false = true) by decide)] at H; exact H
    clear H
    have H := H1
    clear H1
    replace H := Option.bind_eq_some_iff.mp H
    obtain ⟨⟨t271, t274, t275⟩, A400, H⟩ := H
    replace H : (if t275 = 0 then ((bounds_Analyze.f kj6 l0_0 l0_1 (wrap64 (a1_0 + a2)) a1_1 a1_2 a1_3 (wrap64 (a1_4 + a3)) (wrap64 (a1_5 + a4))).bind fun bt277 => (if bt277.2.2 = 0 then (if (t271.length : Int) = (bt277.1.length : Int) then (erratalaw20_BoundsGrow.l0 kj6 t269 t271 bt277.1 0 l0_0 l0_1 a1_0 a1_1 a1_2 a1_3 a1_4 a1_5) else (some false)) else (erratalaw20_BoundsGrow.j3 kj6 t269 t271 l0_0 l0_1 a1_0 a1_1 a1_2 a1_3 a1_4 a1_5))) else (some t269)) = some true := H
    have A40 := Aside0.mk A400
    clear A400
    by_cases c41 : t275 = 0
    ·
     rw [if_pos c41] at H
     have c41b0 : (t275 == 0) = true := beq_iff_eq.mpr c41
     have c41b1 : (t275 != 0) = false := bne_eq_false_iff_eq.mpr c41
     clear c41
     replace H := Option.bind_eq_some_iff.mp H
     obtain ⟨⟨t277, t280, t281⟩, A420, H⟩ := H
     replace H : (if t281 = 0 then (if (t271.length : Int) = (t277.length : Int) then (erratalaw20_BoundsGrow.l0 kj6 t269 t271 t277 0 l0_0 l0_1 a1_0 a1_1 a1_2 a1_3 a1_4 a1_5) else (some false)) else (erratalaw20_BoundsGrow.j3 kj6 t269 t271 l0_0 l0_1 a1_0 a1_1 a1_2 a1_3 a1_4 a1_5)) = some true := H
     have A42 := Aside0.mk A420
     clear A420
     have HC43 := Aside0.mk H
     clear H
     have hnb44 := NB267_268.out
     have hnc44 := NB268_267.out
     obtain ⟨hcz45_0, hcz45_1, hfz45_0, hfz45_1⟩ := blk2 BK267.out
     obtain ⟨hcz46_0, hcz46_1, hcz46_2, hcz46_3, hcz46_4, hcz46_5, hfz46_0, hfz46_1, hfz46_2, hfz46_3, hfz46_4, hfz46_5⟩ := blk6 BK268.out
     go_upto_if 87 with (first | ((with_reducible refine gate_callee (f := 9) rfl ?_); refine goesL_ (some 56) rfl rfl Try.func9 (by kernel_rfl) rfl #[.agg #[.slice A0_0 l0_0.length c0_0, .slice A0_1 l0_1.length c0_1], .agg #[.int .i64 a1_0, .int .i64 a1_1, .int .i64 a1_2, .int .i64 a1_3, .int .i64 a1_4, .int .i64 a1_5]] rfl (by (try simp only [List.map_toArray, List.map_cons, List.map_nil]); first | done | rfl | (simp only [List.length_drop, List.length_take]; rfl)) ?_; (with_reducible refine (bounds_Analyze.calls kj6 _ _ l0_0 _ _ l0_1 a1_0 a1_1 a1_2 a1_3 a1_4 a1_5 t271 t274 t275 _ ?side1 ?side2 ?side3 ?side4 A40.out).mono ?_); (case side1 => exact c_belowA HR0_0.out); (case side2 => exact HC0_0.out); (case side3 => exact c_belowA HR0_1.out); (case side4 => exact HC0_1.out); rintro e w47 ⟨v272, rfl, ho0, hb⟩; refine ⟨_, rfl, ?_⟩; have n0_ := Aside0.mk (Kd.R_lower ho0 below_sizeA); have n1_ := Aside0.mk (blk_keepA BK267.out hb); have n2_ := Aside0.mk (blk_keepA BK268.out hb); have n3_ := Aside0.mk (below_stepA hb); clear BK267; clear BK268; clear HB; have HO273 := n0_; have BK267 := n1_; have BK268 := n2_; have HB := n3_; clear n0_ n1_ n2_ n3_; (try clear hb); (try clear hb2); (try clear hk); (try clear hi); (try clear ho0); obtain ⟨hcz48_0, hcz48_1, hcz48_2, hcz48_3, hcz48_4, hcz48_5, hfz48_0, hfz48_1, hfz48_2, hfz48_3, hfz48_4, hfz48_5⟩ := blk6 BK268.out) | ((with_reducible refine gate_dst (N := 15) rfl ?_); (try (refine gate_guard (by rfl) ?_; dsimp only)); refine box_event ?hg (N := 15) ?hd (cs := #[.int .i64 0, .int .i64 0, .int .i64 0, .int .i64 0, .int .i64 0, .int .i64 0]) (t := 27) ?hr ?_; (case hd => rfl); (case hg => rfl); (case hr => first | (go_simp; done) | (go_simp; rfl)); intro gb276 hg w49 hbox hb; have n0_ := Aside0.mk (Kd.R_below (by (with_reducible repeat (first | apply Kd.R_alloc | apply Kd.R_drewN | apply Kd.R_drew)); exact HO273.out) hb); have n1_ := Aside0.mk (blk_keepA BK267.out hb); have n2_ := Aside0.mk (blk_keepA BK268.out hb); have n3_ := Aside0.mk (below_stepA hb); have n4_ := Aside0.mk (hbox); have n5_ := Aside0.mk ((by rw [hg]; exact below_sizeA : w.heap.size ≤ gb276)); have n6_ := Aside0.mk ((by rw [hg]; exact below_sizeA : w.heap.size ≤ gb276)); have n7_ := Aside0.mk ((by rw [hg]; exact Nat.ne_of_lt (blk_ltKA BK267.out) : gb267 ≠ gb276)); have n8_ := Aside0.mk ((by rw [hg]; exact Nat.ne_of_gt (blk_ltKA BK267.out) : gb276 ≠ gb267)); have n9_ := Aside0.mk ((by rw [hg]; exact Nat.ne_of_lt (blk_ltKA BK268.out) : gb268 ≠ gb276)); have n10_ := Aside0.mk ((by rw [hg]; exact Nat.ne_of_gt (blk_ltKA BK268.out) : gb276 ≠ gb268)); clear HO273; clear BK267; clear BK268; clear HB; have HO273 := n0_; have BK267 := n1_; have BK268 := n2_; have HB := n3_; have BK276 := n4_; have GW276 := n5_; have GE276 := n6_; have NB267_276 := n7_; have NB276_267 := n8_; have NB268_276 := n9_; have NB276_268 := n10_; clear n0_ n1_ n2_ n3_ n4_ n5_ n6_ n7_ n8_ n9_ n10_; clear hb hbox hg; have hnb50 := NB276_267.out; have hnc50 := NB267_276.out; have hnb51 := NB276_268.out; have hnc51 := NB268_276.out; obtain ⟨hcz52_0, hcz52_1, hcz52_2, hcz52_3, hcz52_4, hcz52_5, hfz52_0, hfz52_1, hfz52_2, hfz52_3, hfz52_4, hfz52_5⟩ := blk6 BK276.out; obtain ⟨hcz53_0, hcz53_1, hfz53_0, hfz53_1⟩ := blk2 BK267.out) | ((with_reducible refine gate_callee (f := 9) rfl ?_); refine goesL_ (some 82) rfl rfl Try.func9 (by kernel_rfl) rfl #[.agg #[.slice A0_0 l0_0.length c0_0, .slice A0_1 l0_1.length c0_1], .agg #[.int .i64 (wrap64 (a1_0 + a2)), .int .i64 a1_1, .int .i64 a1_2, .int .i64 a1_3, .int .i64 (wrap64 (a1_4 + a3)), .int .i64 (wrap64 (a1_5 + a4))]] rfl (by (try simp only [List.map_toArray, List.map_cons, List.map_nil]); first | done | rfl | (simp only [List.length_drop, List.length_take]; rfl)) ?_; (with_reducible refine (bounds_Analyze.calls kj6 _ _ l0_0 _ _ l0_1 (wrap64 (a1_0 + a2)) a1_1 a1_2 a1_3 (wrap64 (a1_4 + a3)) (wrap64 (a1_5 + a4)) t277 t280 t281 _ ?side1 ?side2 ?side3 ?side4 A42.out).mono ?_); (case side1 => exact Kd.C_below HR0_0.out (by repeat (first | (with_reducible first | exact HB.out | apply below_alloc | apply pw_below_drewN | apply below_drew1 | refine below_set ?_ GE267.out | refine below_set ?_ GE268.out | refine below_set ?_ GE276.out) | exact HB.out))); (case side2 => exact HC0_0.out); (case side3 => exact Kd.C_below HR0_1.out (by repeat (first | (with_reducible first | exact HB.out | apply below_alloc | apply pw_below_drewN | apply below_drew1 | refine below_set ?_ GE267.out | refine below_set ?_ GE268.out | refine below_set ?_ GE276.out) | exact HB.out))); (case side4 => exact HC0_1.out); rintro e w54 ⟨v278, rfl, ho0, hb⟩; refine ⟨_, rfl, ?_⟩; have n0_ := Aside0.mk (Kd.R_elder' (by (with_reducible repeat (first | apply Kd.R_alloc | apply Kd.R_drewN | apply Kd.R_drew)); exact (Kd.R_mono (Kd.R_far (p := ⟨gb276, 5, none⟩) (Kd.R_far (p := ⟨gb276, 4, none⟩) (Kd.R_far (p := ⟨gb276, 0, none⟩) (Kd.R_far (p := ⟨gb276, 5, none⟩) (Kd.R_far (p := ⟨gb276, 4, none⟩) (Kd.R_far (p := ⟨gb276, 3, none⟩) (Kd.R_far (p := ⟨gb276, 2, none⟩) (Kd.R_far (p := ⟨gb276, 1, none⟩) (Kd.R_far (p := ⟨gb276, 0, none⟩) (Kd.R_types HO273.out BK276.out (by decide)) (fun _ hk => hk.2) (.int .i64 a1_0)) (fun _ hk => hk.2) (.int .i64 a1_1)) (fun _ hk => hk.2) (.int .i64 a1_2)) (fun _ hk => hk.2) (.int .i64 a1_3)) (fun _ hk => hk.2) (.int .i64 a1_4)) (fun _ hk => hk.2) (.int .i64 a1_5)) (fun _ hk => hk.2) (.int .i64 (wrap64 (a1_0 + a2)))) (fun _ hk => hk.2) (.int .i64 (wrap64 (a1_4 + a3)))) (fun _ hk => hk.2) (.int .i64 (wrap64 (a1_5 + a4)))) (fun _ h_ => h_.1))) (Kd.R_base ho0) hb); have n1_ := Aside0.mk (Kd.R_lower (Kd.R_new' ho0 (Kd.R_lt (by (with_reducible repeat (first | apply Kd.R_alloc | apply Kd.R_drewN | apply Kd.R_drew)); exact (Kd.R_mono (Kd.R_far (p := ⟨gb276, 5, none⟩) (Kd.R_far (p := ⟨gb276, 4, none⟩) (Kd.R_far (p := ⟨gb276, 0, none⟩) (Kd.R_far (p := ⟨gb276, 5, none⟩) (Kd.R_far (p := ⟨gb276, 4, none⟩) (Kd.R_far (p := ⟨gb276, 3, none⟩) (Kd.R_far (p := ⟨gb276, 2, none⟩) (Kd.R_far (p := ⟨gb276, 1, none⟩) (Kd.R_far (p := ⟨gb276, 0, none⟩) (Kd.R_types HO273.out BK276.out (by decide)) (fun _ hk => hk.2) (.int .i64 a1_0)) (fun _ hk => hk.2) (.int .i64 a1_1)) (fun _ hk => hk.2) (.int .i64 a1_2)) (fun _ hk => hk.2) (.int .i64 a1_3)) (fun _ hk => hk.2) (.int .i64 a1_4)) (fun _ hk => hk.2) (.int .i64 a1_5)) (fun _ hk => hk.2) (.int .i64 (wrap64 (a1_0 + a2)))) (fun _ hk => hk.2) (.int .i64 (wrap64 (a1_4 + a3)))) (fun _ hk => hk.2) (.int .i64 (wrap64 (a1_5 + a4)))) (fun _ h_ => h_.1))))) below_sizeA); have n2_ := Aside0.mk (blk_keep BK267.out (fun h_ => by (with_reducible repeat (first | refine blk_drewN ?_ _ | refine blk_drew ?_ | refine blk_alloc ?_ _)); refine blk_far ?_ NB267_276.out _; (with_reducible repeat (first | refine blk_drewN ?_ _ | refine blk_drew ?_ | refine blk_alloc ?_ _)); refine blk_far ?_ NB267_276.out _; (with_reducible repeat (first | refine blk_drewN ?_ _ | refine blk_drew ?_ | refine blk_alloc ?_ _)); refine blk_far ?_ NB267_276.out _; (with_reducible repeat (first | refine blk_drewN ?_ _ | refine blk_drew ?_ | refine blk_alloc ?_ _)); refine blk_far ?_ NB267_276.out _; (with_reducible repeat (first | refine blk_drewN ?_ _ | refine blk_drew ?_ | refine blk_alloc ?_ _)); refine blk_far ?_ NB267_276.out _; (with_reducible repeat (first | refine blk_drewN ?_ _ | refine blk_drew ?_ | refine blk_alloc ?_ _)); refine blk_far ?_ NB267_276.out _; (with_reducible repeat (first | refine blk_drewN ?_ _ | refine blk_drew ?_ | refine blk_alloc ?_ _)); refine blk_far ?_ NB267_276.out _; (with_reducible repeat (first | refine blk_drewN ?_ _ | refine blk_drew ?_ | refine blk_alloc ?_ _)); refine blk_far ?_ NB267_276.out _; (with_reducible repeat (first | refine blk_drewN ?_ _ | refine blk_drew ?_ | refine blk_alloc ?_ _)); refine blk_far ?_ NB267_276.out _; (with_reducible repeat (first | refine blk_drewN ?_ _ | refine blk_drew ?_ | refine blk_alloc ?_ _)); exact h_) hb); have n3_ := Aside0.mk (blk_keep BK268.out (fun h_ => by (with_reducible repeat (first | refine blk_drewN ?_ _ | refine blk_drew ?_ | refine blk_alloc ?_ _)); refine blk_far ?_ NB268_276.out _; (with_reducible repeat (first | refine blk_drewN ?_ _ | refine blk_drew ?_ | refine blk_alloc ?_ _)); refine blk_far ?_ NB268_276.out _; (with_reducible repeat (first | refine blk_drewN ?_ _ | refine blk_drew ?_ | refine blk_alloc ?_ _)); refine blk_far ?_ NB268_276.out _; (with_reducible repeat (first | refine blk_drewN ?_ _ | refine blk_drew ?_ | refine blk_alloc ?_ _)); refine blk_far ?_ NB268_276.out _; (with_reducible repeat (first | refine blk_drewN ?_ _ | refine blk_drew ?_ | refine blk_alloc ?_ _)); refine blk_far ?_ NB268_276.out _; (with_reducible repeat (first | refine blk_drewN ?_ _ | refine blk_drew ?_ | refine blk_alloc ?_ _)); refine blk_far ?_ NB268_276.out _; (with_reducible repeat (first | refine blk_drewN ?_ _ | refine blk_drew ?_ | refine blk_alloc ?_ _)); refine blk_far ?_ NB268_276.out _; (with_reducible repeat (first | refine blk_drewN ?_ _ | refine blk_drew ?_ | refine blk_alloc ?_ _)); refine blk_far ?_ NB268_276.out _; (with_reducible repeat (first | refine blk_drewN ?_ _ | refine blk_drew ?_ | refine blk_alloc ?_ _)); refine blk_far ?_ NB268_276.out _; (with_reducible repeat (first | refine blk_drewN ?_ _ | refine blk_drew ?_ | refine blk_alloc ?_ _)); exact h_) hb); have n4_ := Aside0.mk (blk_below (g := gb276) (o := .cells #[.int .i64 (wrap64 (a1_0 + a2)), .int .i64 a1_1, .int .i64 a1_2, .int .i64 a1_3, .int .i64 (wrap64 (a1_4 + a3)), .int .i64 (wrap64 (a1_5 + a4))] 27 (0, 0)) (by (with_reducible repeat (first | refine blk_drewN ?_ _ | refine blk_drew ?_ | refine blk_alloc ?_ _)); refine blk_put (cs := #[.int .i64 (wrap64 (a1_0 + a2)), .int .i64 a1_1, .int .i64 a1_2, .int .i64 a1_3, .int .i64 (wrap64 (a1_4 + a3)), .int .i64 a1_5]) ?_ 5 _ rfl; (with_reducible repeat (first | refine blk_drewN ?_ _ | refine blk_drew ?_ | refine blk_alloc ?_ _)); refine blk_put (cs := #[.int .i64 (wrap64 (a1_0 + a2)), .int .i64 a1_1, .int .i64 a1_2, .int .i64 a1_3, .int .i64 a1_4, .int .i64 a1_5]) ?_ 4 _ rfl; (with_reducible repeat (first | refine blk_drewN ?_ _ | refine blk_drew ?_ | refine blk_alloc ?_ _)); refine blk_put (cs := #[.int .i64 a1_0, .int .i64 a1_1, .int .i64 a1_2, .int .i64 a1_3, .int .i64 a1_4, .int .i64 a1_5]) ?_ 0 _ rfl; (with_reducible repeat (first | refine blk_drewN ?_ _ | refine blk_drew ?_ | refine blk_alloc ?_ _)); refine blk_put (cs := #[.int .i64 a1_0, .int .i64 a1_1, .int .i64 a1_2, .int .i64 a1_3, .int .i64 a1_4, .int .i64 0]) ?_ 5 _ rfl; (with_reducible repeat (first | refine blk_drewN ?_ _ | refine blk_drew ?_ | refine blk_alloc ?_ _)); refine blk_put (cs := #[.int .i64 a1_0, .int .i64 a1_1, .int .i64 a1_2, .int .i64 a1_3, .int .i64 0, .int .i64 0]) ?_ 4 _ rfl; (with_reducible repeat (first | refine blk_drewN ?_ _ | refine blk_drew ?_ | refine blk_alloc ?_ _)); refine blk_put (cs := #[.int .i64 a1_0, .int .i64 a1_1, .int .i64 a1_2, .int .i64 0, .int .i64 0, .int .i64 0]) ?_ 3 _ rfl; (with_reducible repeat (first | refine blk_drewN ?_ _ | refine blk_drew ?_ | refine blk_alloc ?_ _)); refine blk_put (cs := #[.int .i64 a1_0, .int .i64 a1_1, .int .i64 0, .int .i64 0, .int .i64 0, .int .i64 0]) ?_ 2 _ rfl; (with_reducible repeat (first | refine blk_drewN ?_ _ | refine blk_drew ?_ | refine blk_alloc ?_ _)); refine blk_put (cs := #[.int .i64 a1_0, .int .i64 0, .int .i64 0, .int .i64 0, .int .i64 0, .int .i64 0]) ?_ 1 _ rfl; (with_reducible repeat (first | refine blk_drewN ?_ _ | refine blk_drew ?_ | refine blk_alloc ?_ _)); refine blk_put (cs := #[.int .i64 0, .int .i64 0, .int .i64 0, .int .i64 0, .int .i64 0, .int .i64 0]) ?_ 0 _ rfl; (with_reducible repeat (first | refine blk_drewN ?_ _ | refine blk_drew ?_ | refine blk_alloc ?_ _)); exact BK276.out) hb); have n5_ := Aside0.mk (below_stepA hb); clear HO273; clear BK267; clear BK268; clear BK276; clear HB; have HO273 := n0_; have HO279 := n1_; have BK267 := n2_; have BK268 := n3_; have BK276 := n4_; have HB := n5_; clear n0_ n1_ n2_ n3_ n4_ n5_; (try clear hb); (try clear hb2); (try clear hk); (try clear hi); (try clear ho0)))
     (try simp only [Act.put, List.setIfInBounds_toArray, List.set_cons_zero, List.set_cons_succ])
     go_cut [] (fun wc => ∃ (kq : Nat), Aside0 (erratalaw20_BoundsGrow.j3 kq t269 t271 l0_0 l0_1 a1_0 a1_1 a1_2 a1_3 a1_4 a1_5 = some true) ∧ Aside0 (kq ≤ kj6) ∧ Aside0 (Kd.R k37 37 wc w.heap.size (fun _ => True) v272 t271) ∧ Aside0 (wc.heap[gb267]? = some (.cells #[(.slice A0_0 l0_0.length c0_0), (.slice A0_1 l0_1.length c0_1)] 25 (0, 0))) ∧ Aside0 (wc.heap[gb268]? = some (.cells #[.int .i64 a1_0, .int .i64 a1_1, .int .i64 a1_2, .int .i64 a1_3, .int .i64 a1_4, .int .i64 a1_5] 27 (0, 0))) ∧ Aside0 (wc.heap[gb276]? = some (.cells #[.int .i64 (wrap64 (a1_0 + a2)), .int .i64 a1_1, .int .i64 a1_2, .int .i64 a1_3, .int .i64 (wrap64 (a1_4 + a3)), .int .i64 (wrap64 (a1_5 + a4))] 27 (0, 0))) ∧ Aside0 (Below w.heap.size w wc))
     case first =>
      have H := HC43.out
      clear HC43
      by_cases c55 : t281 = 0
      ·
       rw [if_pos c55] at H
       have c55b0 : (t281 == 0) = true := beq_iff_eq.mpr c55
       have c55b1 : (t281 != 0) = false := bne_eq_false_iff_eq.mpr c55
       clear c55
       (first | rw [c55b0] | (simp only [i64_w, i32_w]; rw [c55b0]) | skip)
       by_cases c56 : (t271.length : Int) = (t277.length : Int)
       ·
        rw [if_pos c56] at H
        have c56b0 : ((t271.length : Int) == (t277.length : Int)) = true := beq_iff_eq.mpr c56
        have c56b1 : ((t271.length : Int) != (t277.length : Int)) = false := bne_eq_false_iff_eq.mpr c56
        have c56b2 : (t271.length == t277.length) = true := by first | simpa using c56 | (simp at c56 ⊢; omega)
        clear c56
        have H' := Aside0.mk H
        clear H
        obtain ⟨Ao57, co57, eo57⟩ := Kd.R_slice HO273.out
        subst eo57
        obtain ⟨Ao58, co58, eo58⟩ := Kd.R_slice HO279.out
        subst eo58
        go_wp2
        go_loopg [19] kj6 (fun kq v19 w' => ∃ (x19_2 : Int), v19 = .int .i64 x19_2 ∧ Aside0 (erratalaw20_BoundsGrow.l0 kq t269 t271 t277 x19_2 l0_0 l0_1 a1_0 a1_1 a1_2 a1_3 a1_4 a1_5 = some true) ∧ Aside0 (kq ≤ kj6) ∧ Aside0 (Kd.R k37 37 w' w.heap.size (fun k_ => some k_ ≠ ((.slice Ao58 t277.length co58) : Value).ownBlock) (.slice Ao57 t271.length co57) t271) ∧ Aside0 (Kd.R k37 37 w' w.heap.size (fun k_ => some k_ ≠ ((.slice Ao57 t271.length co57) : Value).ownBlock) (.slice Ao58 t277.length co58) t277) ∧ Aside0 (w'.heap[gb267]? = some (.cells #[(.slice A0_0 l0_0.length c0_0), (.slice A0_1 l0_1.length c0_1)] 25 (0, 0))) ∧ Aside0 (w'.heap[gb268]? = some (.cells #[.int .i64 a1_0, .int .i64 a1_1, .int .i64 a1_2, .int .i64 a1_3, .int .i64 a1_4, .int .i64 a1_5] 27 (0, 0))) ∧ Aside0 (w'.heap[gb276]? = some (.cells #[.int .i64 (wrap64 (a1_0 + a2)), .int .i64 a1_1, .int .i64 a1_2, .int .i64 a1_3, .int .i64 (wrap64 (a1_4 + a3)), .int .i64 (wrap64 (a1_5 + a4))] 27 (0, 0))) ∧ Aside0 (Below w.heap.size w w'))
        case atStart => exact ⟨(0), (by first | rfl | (simp; done) | (simp [*]; done)), H', ⟨Nat.le_refl _⟩, ⟨by (with_reducible repeat (first | apply Kd.R_alloc | apply Kd.R_drewN | apply Kd.R_drew)); exact Kd.R_mono HO273.out (fun _ hk => hk.2)⟩, ⟨by (with_reducible repeat (first | apply Kd.R_alloc | apply Kd.R_drewN | apply Kd.R_drew)); exact Kd.R_mono HO279.out (fun _ hk => hk.2)⟩, ⟨by (with_reducible repeat (first | refine blk_drewN ?_ _ | refine blk_drew ?_ | refine blk_alloc ?_ _)); exact BK267.out⟩, ⟨by (with_reducible repeat (first | refine blk_drewN ?_ _ | refine blk_drew ?_ | refine blk_alloc ?_ _)); exact BK268.out⟩, ⟨by (with_reducible repeat (first | refine blk_drewN ?_ _ | refine blk_drew ?_ | refine blk_alloc ?_ _)); exact BK276.out⟩, ⟨by repeat (first | (with_reducible first | exact HB.out | apply below_alloc | apply pw_below_drewN | apply below_drew1 | refine below_set ?_ GE267.out | refine below_set ?_ GE268.out | refine below_set ?_ GE276.out) | exact HB.out)⟩⟩
        case round =>
         clear H'
         try clear c1
         try clear c2
         try clear p2
         try clear c3
         try clear c4
         try clear c5
         try clear p6
         try clear c7
         try clear c8
         try clear c9
         try clear c12
         try clear c13
         try clear c13b0
         try clear c14
         try clear c17
         try clear c17b0
         try clear c18
         try clear c21
         try clear c21b0
         try clear c22
         try clear c25
         try clear c25b0
         try clear c26
         try clear c29
         try clear c29b0
         try clear c30
         try clear c33
         try clear c36
         try clear c39
         try clear c41
         try clear c41b0
         try clear c41b1
         try clear c44
         try clear c50
         try clear c51
         try clear c55
         try clear c55b0
         try clear c55b1
         try clear c56
         try clear c56b0
         try clear c56b1
         try clear c56b2
         try clear hcz15_0
         try clear hcz15_1
         try clear hcz19_0
         try clear hcz19_1
         try clear hcz23_0
         try clear hcz23_1
         try clear hcz27_0
         try clear hcz27_1
         try clear hcz31_0
         try clear hcz31_1
         try clear hcz34_0
         try clear hcz34_1
         try clear hcz37_0
         try clear hcz37_1
         try clear hcz45_0
         try clear hcz45_1
         try clear hcz46_0
         try clear hcz46_1
         try clear hcz46_2
         try clear hcz46_3
         try clear hcz46_4
         try clear hcz46_5
         try clear hcz48_0
         try clear hcz48_1
         try clear hcz48_2
         try clear hcz48_3
         try clear hcz48_4
         try clear hcz48_5
         try clear hcz52_0
         try clear hcz52_1
         try clear hcz52_2
         try clear hcz52_3
         try clear hcz52_4
         try clear hcz52_5
         try clear hcz53_0
         try clear hcz53_1
         try clear hfz15_0
         try clear hfz15_1
         try clear hfz19_0
         try clear hfz19_1
         try clear hfz23_0
         try clear hfz23_1
         try clear hfz27_0
         try clear hfz27_1
         try clear hfz31_0
         try clear hfz31_1
         try clear hfz34_0
         try clear hfz34_1
         try clear hfz37_0
         try clear hfz37_1
         try clear hfz45_0
         try clear hfz45_1
         try clear hfz46_0
         try clear hfz46_1
         try clear hfz46_2
         try clear hfz46_3
         try clear hfz46_4
         try clear hfz46_5
         try clear hfz48_0
         try clear hfz48_1
         try clear hfz48_2
         try clear hfz48_3
         try clear hfz48_4
         try clear hfz48_5
         try clear hfz52_0
         try clear hfz52_1
         try clear hfz52_2
         try clear hfz52_3
         try clear hfz52_4
         try clear hfz52_5
         try clear hfz53_0
         try clear hfz53_1
         try clear p2
         obtain ⟨x19_2, rfl, HA, HK2, HO_12, HO_16, BK267, BK268, BK276, HB⟩ := hrel
         cases gk with
         | zero => exact absurd HA.out (by simp [erratalaw20_BoundsGrow.l0])
         | succ k2 =>
          have H := HA.out
          clear HA
          simp only [erratalaw20_BoundsGrow.l0] at H
          by_cases c59 : x19_2 < (t271.length : Int)
          ·
           rw [if_pos c59] at H
           have c59b0 : decide (x19_2 < (t271.length : Int)) = true := decide_eq_true c59
           clear c59
           have HC60 := Aside0.mk H
           clear H
           go_upto_region 18 with (fail)
           go_cut [148] (fun v148 wc => ∃ (kq : Nat) (x148_59 : Bool), v148 = .bool x148_59 ∧ Aside0 (erratalaw20_BoundsGrow.j2 kq t269 t271 t277 x19_2 x148_59 l0_0 l0_1 a1_0 a1_1 a1_2 a1_3 a1_4 a1_5 = some true) ∧ Aside0 (kq ≤ k2) ∧ Aside0 (Kd.R k37 37 wc w.heap.size (fun k_ => some k_ ≠ ((.slice Ao58 t277.length co58) : Value).ownBlock) (.slice Ao57 t271.length co57) t271) ∧ Aside0 (Kd.R k37 37 wc w.heap.size (fun k_ => some k_ ≠ ((.slice Ao57 t271.length co57) : Value).ownBlock) (.slice Ao58 t277.length co58) t277) ∧ Aside0 (wc.heap[gb267]? = some (.cells #[(.slice A0_0 l0_0.length c0_0), (.slice A0_1 l0_1.length c0_1)] 25 (0, 0))) ∧ Aside0 (wc.heap[gb268]? = some (.cells #[.int .i64 a1_0, .int .i64 a1_1, .int .i64 a1_2, .int .i64 a1_3, .int .i64 a1_4, .int .i64 a1_5] 27 (0, 0))) ∧ Aside0 (wc.heap[gb276]? = some (.cells #[.int .i64 (wrap64 (a1_0 + a2)), .int .i64 a1_1, .int .i64 a1_2, .int .i64 a1_3, .int .i64 (wrap64 (a1_4 + a3)), .int .i64 (wrap64 (a1_5 + a4))] 27 (0, 0))) ∧ Aside0 (Below w.heap.size w wc))
           case first =>
            have H := HC60.out
            clear HC60
            by_cases c61 : 0 ≤ x19_2
            ·
             rw [if_pos c61] at H
             have c61b0 : decide (0 ≤ x19_2) = true := decide_eq_true c61
             clear c61
             (first | rw [c61b0] | (simp only [i64_w, i32_w]; rw [c61b0]) | skip)
             by_cases c62 : x19_2 < (t277.length : Int)
             ·
              rw [if_pos c62] at H
              have c62b0 : decide (x19_2 < (t277.length : Int)) = true := decide_eq_true c62
              clear c62
              by_cases c63 : ((rd_T37 t271 x19_2).f0) = ((rd_T37 t277 x19_2).f0)
              ·
               rw [if_pos c63] at H
               have c63b0 : (((rd_T37 t271 x19_2).f0) == ((rd_T37 t277 x19_2).f0)) = true := beq_iff_eq.mpr c63
               have c63b1 : (((rd_T37 t271 x19_2).f0) != ((rd_T37 t277 x19_2).f0)) = false := bne_eq_false_iff_eq.mpr c63
               clear c63
               by_cases c64 : ((rd_T37 t271 x19_2).f1) = ((rd_T37 t277 x19_2).f1)
               ·
                rw [if_pos c64] at H
                have c64b0 : (((rd_T37 t271 x19_2).f1) == ((rd_T37 t277 x19_2).f1)) = true := beq_iff_eq.mpr c64
                have c64b1 : (((rd_T37 t271 x19_2).f1) != ((rd_T37 t277 x19_2).f1)) = false := bne_eq_false_iff_eq.mpr c64
                clear c64
                by_cases c65 : ((rd_T37 t271 x19_2).f2) > ((rd_T37 t277 x19_2).f2)
                ·
                 rw [if_pos c65] at H
                 have c65b0 : decide (((rd_T37 t277 x19_2).f2) < ((rd_T37 t271 x19_2).f2)) = true := decide_eq_true c65
                 clear c65
                 exact absurd H (by cases k2 <;> simp [erratalaw20_BoundsGrow.j2])
                ·
                 rw [if_neg c65] at H
                 have c65b0 : decide (((rd_T37 t277 x19_2).f2) < ((rd_T37 t271 x19_2).f2)) = false := decide_eq_false c65
                 clear c65
                 have H' := Aside0.mk H
                 clear H
                 try go_wp2
                 have n0_ := Aside0.mk (Kd.R_drew HO_12.out)
                 have n1_ := Aside0.mk (Kd.R_drew HO_16.out)
                 have n2_ := Aside0.mk (blk_drew BK267.out)
                 have n3_ := Aside0.mk (blk_drew BK268.out)
                 have n4_ := Aside0.mk (blk_drew BK276.out)
                 have n5_ := Aside0.mk (below_drew1 HB.out)
                 clear HO_12
                 clear HO_16
                 clear BK267
                 clear BK268
                 clear BK276
                 clear HB
                 have HO_12 := n0_
                 have HO_16 := n1_
                 have BK267 := n2_
                 have BK268 := n3_
                 have BK276 := n4_
                 have HB := n5_
                 clear n0_ n1_ n2_ n3_ n4_ n5_
                 have p282 : 0 ≤ (x19_2 : Int) := of_decide_eq_true (by first | (with_reducible assumption) | assumption)
                 have q282 : x19_2 < (t271.length : Int) := of_decide_eq_true (by first | (with_reducible assumption) | assumption)
                 obtain ⟨ad282, e282, hx282_0, hx282_1, hx282_2, hx282_3⟩ := at_T37 (Kd.R_reads' HO_12.out).2.2 x19_2 p282 q282
                 cases e282
                 replace p282 := eq_true p282
                 replace q282 := eq_true q282
                 have p283 : 0 ≤ (x19_2 : Int) := of_decide_eq_true (by first | (with_reducible assumption) | assumption)
                 have q283 : x19_2 < (t277.length : Int) := of_decide_eq_true (by first | (with_reducible assumption) | assumption)
                 obtain ⟨ad283, e283, hx283_0, hx283_1, hx283_2, hx283_3⟩ := at_T37 (Kd.R_reads' HO_16.out).2.2 x19_2 p283 q283
                 cases e283
                 replace p283 := eq_true p283
                 replace q283 := eq_true q283
                 have p284 : 0 ≤ (x19_2 : Int) := of_decide_eq_true (by first | (with_reducible assumption) | assumption)
                 have q284 : x19_2 < (t271.length : Int) := of_decide_eq_true (by first | (with_reducible assumption) | assumption)
                 obtain ⟨ad284, e284, hx284_0, hx284_1, hx284_2, hx284_3⟩ := at_T37 (Kd.R_reads' HO_12.out).2.2 x19_2 p284 q284
                 obtain rfl : ad282 = ad284 := (by injection e284)
                 replace p284 := eq_true p284
                 replace q284 := eq_true q284
                 have p285 : 0 ≤ (x19_2 : Int) := of_decide_eq_true (by first | (with_reducible assumption) | assumption)
                 have q285 : x19_2 < (t277.length : Int) := of_decide_eq_true (by first | (with_reducible assumption) | assumption)
                 obtain ⟨ad285, e285, hx285_0, hx285_1, hx285_2, hx285_3⟩ := at_T37 (Kd.R_reads' HO_16.out).2.2 x19_2 p285 q285
                 obtain rfl : ad283 = ad285 := (by injection e285)
                 replace p285 := eq_true p285
                 replace q285 := eq_true q285
                 have p286 : 0 ≤ (x19_2 : Int) := of_decide_eq_true (by first | (with_reducible assumption) | assumption)
                 have q286 : x19_2 < (t271.length : Int) := of_decide_eq_true (by first | (with_reducible assumption) | assumption)
                 obtain ⟨ad286, e286, hx286_0, hx286_1, hx286_2, hx286_3⟩ := at_T37 (Kd.R_reads' HO_12.out).2.2 x19_2 p286 q286
                 obtain rfl : ad282 = ad286 := (by injection e286)
                 replace p286 := eq_true p286
                 replace q286 := eq_true q286
                 have p287 : 0 ≤ (x19_2 : Int) := of_decide_eq_true (by first | (with_reducible assumption) | assumption)
                 have q287 : x19_2 < (t277.length : Int) := of_decide_eq_true (by first | (with_reducible assumption) | assumption)
                 obtain ⟨ad287, e287, hx287_0, hx287_1, hx287_2, hx287_3⟩ := at_T37 (Kd.R_reads' HO_16.out).2.2 x19_2 p287 q287
                 obtain rfl : ad283 = ad287 := (by injection e287)
                 replace p287 := eq_true p287
                 replace q287 := eq_true q287
                 have p288 : 0 ≤ (x19_2 : Int) := of_decide_eq_true (by first | (with_reducible assumption) | assumption)
                 have q288 : x19_2 < (t271.length : Int) := of_decide_eq_true (by first | (with_reducible assumption) | assumption)
                 obtain ⟨ad288, e288, hx288_0, hx288_1, hx288_2, hx288_3⟩ := at_T37 (Kd.R_reads' HO_12.out).2.2 x19_2 p288 q288
                 obtain rfl : ad282 = ad288 := (by injection e288)
                 replace p288 := eq_true p288
                 replace q288 := eq_true q288
                 have p289 : 0 ≤ (x19_2 : Int) := of_decide_eq_true (by first | (with_reducible assumption) | assumption)
                 have q289 : x19_2 < (t277.length : Int) := of_decide_eq_true (by first | (with_reducible assumption) | assumption)
                 obtain ⟨ad289, e289, hx289_0, hx289_1, hx289_2, hx289_3⟩ := at_T37 (Kd.R_reads' HO_16.out).2.2 x19_2 p289 q289
                 obtain rfl : ad283 = ad289 := (by injection e289)
                 replace p289 := eq_true p289
                 replace q289 := eq_true q289
                 refine start_ (n := 50) (S := fun w' => w'.cell? (ad282.add ((x19_2).toNat * 4)) = some (.int .i64 ((rd_T37 t271 x19_2).f0)) ∧ w'.cell? ⟨(ad282.add ((x19_2).toNat * 4)).block, (ad282.add ((x19_2).toNat * 4)).off + 1, none⟩ = some (.int .i64 ((rd_T37 t271 x19_2).f1)) ∧ w'.cell? ⟨(ad282.add ((x19_2).toNat * 4)).block, (ad282.add ((x19_2).toNat * 4)).off + 2, none⟩ = some (.int .i64 ((rd_T37 t271 x19_2).f2)) ∧ w'.cell? ⟨(ad282.add ((x19_2).toNat * 4)).block, (ad282.add ((x19_2).toNat * 4)).off + 3, none⟩ = some (.int .i64 ((rd_T37 t271 x19_2).f3)) ∧ w'.cell? (ad283.add ((x19_2).toNat * 4)) = some (.int .i64 ((rd_T37 t277 x19_2).f0)) ∧ w'.cell? ⟨(ad283.add ((x19_2).toNat * 4)).block, (ad283.add ((x19_2).toNat * 4)).off + 1, none⟩ = some (.int .i64 ((rd_T37 t277 x19_2).f1)) ∧ w'.cell? ⟨(ad283.add ((x19_2).toNat * 4)).block, (ad283.add ((x19_2).toNat * 4)).off + 2, none⟩ = some (.int .i64 ((rd_T37 t277 x19_2).f2)) ∧ w'.cell? ⟨(ad283.add ((x19_2).toNat * 4)).block, (ad283.add ((x19_2).toNat * 4)).off + 3, none⟩ = some (.int .i64 ((rd_T37 t277 x19_2).f3)) ∧ w'.cell? (ad282.add ((x19_2).toNat * 4)) = some (.int .i64 ((rd_T37 t271 x19_2).f0)) ∧ w'.cell? ⟨(ad282.add ((x19_2).toNat * 4)).block, (ad282.add ((x19_2).toNat * 4)).off + 1, none⟩ = some (.int .i64 ((rd_T37 t271 x19_2).f1)) ∧ w'.cell? ⟨(ad282.add ((x19_2).toNat * 4)).block, (ad282.add ((x19_2).toNat * 4)).off + 2, none⟩ = some (.int .i64 ((rd_T37 t271 x19_2).f2)) ∧ w'.cell? ⟨(ad282.add ((x19_2).toNat * 4)).block, (ad282.add ((x19_2).toNat * 4)).off + 3, none⟩ = some (.int .i64 ((rd_T37 t271 x19_2).f3)) ∧ w'.cell? (ad283.add ((x19_2).toNat * 4)) = some (.int .i64 ((rd_T37 t277 x19_2).f0)) ∧ w'.cell? ⟨(ad283.add ((x19_2).toNat * 4)).block, (ad283.add ((x19_2).toNat * 4)).off + 1, none⟩ = some (.int .i64 ((rd_T37 t277 x19_2).f1)) ∧ w'.cell? ⟨(ad283.add ((x19_2).toNat * 4)).block, (ad283.add ((x19_2).toNat * 4)).off + 2, none⟩ = some (.int .i64 ((rd_T37 t277 x19_2).f2)) ∧ w'.cell? ⟨(ad283.add ((x19_2).toNat * 4)).block, (ad283.add ((x19_2).toNat * 4)).off + 3, none⟩ = some (.int .i64 ((rd_T37 t277 x19_2).f3)) ∧ w'.cell? (ad282.add ((x19_2).toNat * 4)) = some (.int .i64 ((rd_T37 t271 x19_2).f0)) ∧ w'.cell? ⟨(ad282.add ((x19_2).toNat * 4)).block, (ad282.add ((x19_2).toNat * 4)).off + 1, none⟩ = some (.int .i64 ((rd_T37 t271 x19_2).f1)) ∧ w'.cell? ⟨(ad282.add ((x19_2).toNat * 4)).block, (ad282.add ((x19_2).toNat * 4)).off + 2, none⟩ = some (.int .i64 ((rd_T37 t271 x19_2).f2)) ∧ w'.cell? ⟨(ad282.add ((x19_2).toNat * 4)).block, (ad282.add ((x19_2).toNat * 4)).off + 3, none⟩ = some (.int .i64 ((rd_T37 t271 x19_2).f3)) ∧ w'.cell? (ad283.add ((x19_2).toNat * 4)) = some (.int .i64 ((rd_T37 t277 x19_2).f0)) ∧ w'.cell? ⟨(ad283.add ((x19_2).toNat * 4)).block, (ad283.add ((x19_2).toNat * 4)).off + 1, none⟩ = some (.int .i64 ((rd_T37 t277 x19_2).f1)) ∧ w'.cell? ⟨(ad283.add ((x19_2).toNat * 4)).block, (ad283.add ((x19_2).toNat * 4)).off + 2, none⟩ = some (.int .i64 ((rd_T37 t277 x19_2).f2)) ∧ w'.cell? ⟨(ad283.add ((x19_2).toNat * 4)).block, (ad283.add ((x19_2).toNat * 4)).off + 3, none⟩ = some (.int .i64 ((rd_T37 t277 x19_2).f3)) ∧ w'.cell? (ad282.add ((x19_2).toNat * 4)) = some (.int .i64 ((rd_T37 t271 x19_2).f0)) ∧ w'.cell? ⟨(ad282.add ((x19_2).toNat * 4)).block, (ad282.add ((x19_2).toNat * 4)).off + 1, none⟩ = some (.int .i64 ((rd_T37 t271 x19_2).f1)) ∧ w'.cell? ⟨(ad282.add ((x19_2).toNat * 4)).block, (ad282.add ((x19_2).toNat * 4)).off + 2, none⟩ = some (.int .i64 ((rd_T37 t271 x19_2).f2)) ∧ w'.cell? ⟨(ad282.add ((x19_2).toNat * 4)).block, (ad282.add ((x19_2).toNat * 4)).off + 3, none⟩ = some (.int .i64 ((rd_T37 t271 x19_2).f3)) ∧ w'.cell? (ad283.add ((x19_2).toNat * 4)) = some (.int .i64 ((rd_T37 t277 x19_2).f0)) ∧ w'.cell? ⟨(ad283.add ((x19_2).toNat * 4)).block, (ad283.add ((x19_2).toNat * 4)).off + 1, none⟩ = some (.int .i64 ((rd_T37 t277 x19_2).f1)) ∧ w'.cell? ⟨(ad283.add ((x19_2).toNat * 4)).block, (ad283.add ((x19_2).toNat * 4)).off + 2, none⟩ = some (.int .i64 ((rd_T37 t277 x19_2).f2)) ∧ w'.cell? ⟨(ad283.add ((x19_2).toNat * 4)).block, (ad283.add ((x19_2).toNat * 4)).off + 3, none⟩ = some (.int .i64 ((rd_T37 t277 x19_2).f3))) (ds := []) #[O,O,O,O,O,O,O,O,O,O,O,O,O,O,O,O,O,O,O,O,O,O,O,O,O,O,O,O,O,O,O,O,O,O,O,O,O,O,O,O,O,O,O,O,O,O,O,O,O,O] (by kernel_rfl) rfl rfl ⟨hx282_0, hx282_1, hx282_2, hx282_3, hx283_0, hx283_1, hx283_2, hx283_3, hx284_0, hx284_1, hx284_2, hx284_3, hx285_0, hx285_1, hx285_2, hx285_3, hx286_0, hx286_1, hx286_2, hx286_3, hx287_0, hx287_1, hx287_2, hx287_3, hx288_0, hx288_1, hx288_2, hx288_3, hx289_0, hx289_1, hx289_2, hx289_3⟩ (fun hHeld => ?_); refine with_tabW erratalaw20_BoundsGrow.tab18 erratalaw20_BoundsGrow.bits18 (fun HT_ HW_ => ?_)
                 generalize wr.drew = w66 at HO_12 HO_16 BK267 BK268 BK276 HB hx282_0 hx282_1 hx282_2 hx282_3 hx283_0 hx283_1 hx283_2 hx283_3 hx284_0 hx284_1 hx284_2 hx284_3 hx285_0 hx285_1 hx285_2 hx285_3 hx286_0 hx286_1 hx286_2 hx286_3 hx287_0 hx287_1 hx287_2 hx287_3 hx288_0 hx288_1 hx288_2 hx288_3 hx289_0 hx289_1 hx289_2 hx289_3 hHeld ⊢
                 refine pure_ (i := 0) (N := some 99) (v := ?_) (a' := ?_) #[J,O,O,O,O,O,O,O,O,O,O,O,O,O,O,O,O,O,O,O,O,O,O,O,O,O,O,O,O,O,O,O,O,O,O,O,O,O,O,O,O,O,O,O,O,O,O,O,O,O] rfl rfl (any_of HT_.out (by kernel_rfl)) (fun _ _ _ h => h) (Or.inl ⟨by rfl, ?_⟩) ?_ ?_
                 rotate_left
                 ·
                  intro w'
                  go_simp
                  with_reducible rfl
                 rotate_left
                 ·
                  simp only [Act.put, List.setIfInBounds_toArray, List.set_cons_zero, List.set_cons_succ, i64_w, i32_w]
                  rfl
                 refine pure_ (i := 1) (N := some 100) (v := ?_) (a' := ?_) #[J,J,O,O,O,O,O,O,O,O,O,O,O,O,O,O,O,O,O,O,O,O,O,O,O,O,O,O,O,O,O,O,O,O,O,O,O,O,O,O,O,O,O,O,O,O,O,O,O,O] rfl rfl (any_of HT_.out (by kernel_rfl)) (fun _ _ _ h => h) (Or.inl ⟨by rfl, ?_⟩) ?_ ?_
                 rotate_left
                 ·
                  intro w'
                  go_simp
                  with_reducible rfl
                 rotate_left
                 ·
                  simp only [Act.put, List.setIfInBounds_toArray, List.set_cons_zero, List.set_cons_succ, i64_w, i32_w]
                  rfl
                 refine pure_ (i := 2) (N := some 101) (v := ?_) (a' := ?_) #[J,J,J,O,O,O,O,O,O,O,O,O,O,O,O,O,O,O,O,O,O,O,O,O,O,O,O,O,O,O,O,O,O,O,O,O,O,O,O,O,O,O,O,O,O,O,O,O,O,O] rfl rfl (any_of HT_.out (by kernel_rfl)) (fun _ _ _ h => h) (Or.inl ⟨by rfl, ?_⟩) ?_ ?_
                 rotate_left
                 ·
                  intro w'
                  go_simp
                  with_reducible rfl
                 rotate_left
                 ·
                  simp only [Act.put, List.setIfInBounds_toArray, List.set_cons_zero, List.set_cons_succ, i64_w, i32_w]
                  rfl
                 refine pure_ (i := 3) (N := some 102) (v := ?_) (a' := ?_) #[J,J,J,J,O,O,O,O,O,O,O,O,O,O,O,O,O,O,O,O,O,O,O,O,O,O,O,O,O,O,O,O,O,O,O,O,O,O,O,O,O,O,O,O,O,O,O,O,O,O] rfl rfl (any_of HT_.out (by kernel_rfl)) (fun _ _ _ h => h) (Or.inl ⟨by rfl, ?_⟩) ?_ ?_
                 rotate_left
                 ·
                  intro w'
                  go_simp
                  with_reducible rfl
                 rotate_left
                 ·
                  simp only [Act.put, List.setIfInBounds_toArray, List.set_cons_zero, List.set_cons_succ, i64_w, i32_w]
                  rfl
                 refine pure_ (i := 5) (N := some 104) (v := ?_) (a' := ?_) #[J,J,J,J,O,J,O,O,O,O,O,O,O,O,O,O,O,O,O,O,O,O,O,O,O,O,O,O,O,O,O,O,O,O,O,O,O,O,O,O,O,O,O,O,O,O,O,O,O,O] rfl rfl (any_of HT_.out (by kernel_rfl)) (fun _ _ _ h => h) (Or.inl ⟨by rfl, ?_⟩) ?_ ?_
                 rotate_left
                 ·
                  intro w'
                  go_simp
                  with_reducible rfl
                 rotate_left
                 ·
                  simp only [Act.put, List.setIfInBounds_toArray, List.set_cons_zero, List.set_cons_succ, i64_w, i32_w]
                  rfl
                 refine pure_ (i := 6) (N := some 105) (v := ?_) (a' := ?_) #[J,J,J,J,O,J,J,O,O,O,O,O,O,O,O,O,O,O,O,O,O,O,O,O,O,O,O,O,O,O,O,O,O,O,O,O,O,O,O,O,O,O,O,O,O,O,O,O,O,O] rfl rfl (any_of HT_.out (by kernel_rfl)) (fun _ _ _ h => h) (Or.inl ⟨by rfl, ?_⟩) ?_ ?_
                 rotate_left
                 ·
                  intro w'
                  go_simp
                  with_reducible rfl
                 rotate_left
                 ·
                  simp only [Act.put, List.setIfInBounds_toArray, List.set_cons_zero, List.set_cons_succ, i64_w, i32_w]
                  rfl
                 refine pure_ (i := 7) (N := some 106) (v := ?_) (a' := ?_) #[J,J,J,J,O,J,J,J,O,O,O,O,O,O,O,O,O,O,O,O,O,O,O,O,O,O,O,O,O,O,O,O,O,O,O,O,O,O,O,O,O,O,O,O,O,O,O,O,O,O] rfl rfl (any_of HT_.out (by kernel_rfl)) (fun _ _ _ h => h) (Or.inl ⟨by rfl, ?_⟩) ?_ ?_
                 rotate_left
                 ·
                  intro w'
                  go_simp
                  with_reducible rfl
                 rotate_left
                 ·
                  simp only [Act.put, List.setIfInBounds_toArray, List.set_cons_zero, List.set_cons_succ, i64_w, i32_w]
                  rfl
                 refine pure_ (i := 8) (N := some 107) (v := ?_) (a' := ?_) #[J,J,J,J,O,J,J,J,J,O,O,O,O,O,O,O,O,O,O,O,O,O,O,O,O,O,O,O,O,O,O,O,O,O,O,O,O,O,O,O,O,O,O,O,O,O,O,O,O,O] rfl rfl (any_of HT_.out (by kernel_rfl)) (fun _ _ _ h => h) (Or.inl ⟨by rfl, ?_⟩) ?_ ?_
                 rotate_left
                 ·
                  intro w'
                  go_simp
                  with_reducible rfl
                 rotate_left
                 ·
                  simp only [Act.put, List.setIfInBounds_toArray, List.set_cons_zero, List.set_cons_succ, i64_w, i32_w]
                  rfl
                 refine take_ (i := 4) (N := some 103) (v := ?_) (a' := ?_) #[J,J,J,J,J,J,J,J,J,O,O,O,O,O,O,O,O,O,O,O,O,O,O,O,O,O,O,O,O,O,O,O,O,O,O,O,O,O,O,O,O,O,O,O,O,O,O,O,O,O] rfl rfl (take_ofW HT_.out HW_.out (by kernel_rfl)) (fun _ _ _ h => h) (Or.inl ⟨by rfl, ?_⟩) hHeld ?_ ?_
                 rotate_left
                 ·
                  rintro w' ⟨s0, s1, s2, s3, s4, s5, s6, s7, s8, s9, s10, s11, s12, s13, s14, s15, s16, s17, s18, s19, s20, s21, s22, s23, s24, s25, s26, s27, s28, s29, s30, s31⟩
                  go_simp
                  with_reducible rfl
                 rotate_left
                 ·
                  simp only [Act.put, List.setIfInBounds_toArray, List.set_cons_zero, List.set_cons_succ, i64_w, i32_w]
                  rfl
                 refine take_ (i := 9) (N := some 108) (v := ?_) (a' := ?_) #[J,J,J,J,J,J,J,J,J,J,O,O,O,O,O,O,O,O,O,O,O,O,O,O,O,O,O,O,O,O,O,O,O,O,O,O,O,O,O,O,O,O,O,O,O,O,O,O,O,O] rfl rfl (take_ofW HT_.out HW_.out (by kernel_rfl)) (fun _ _ _ h => h) (Or.inl ⟨by rfl, ?_⟩) hHeld ?_ ?_
                 rotate_left
                 ·
                  rintro w' ⟨s0, s1, s2, s3, s4, s5, s6, s7, s8, s9, s10, s11, s12, s13, s14, s15, s16, s17, s18, s19, s20, s21, s22, s23, s24, s25, s26, s27, s28, s29, s30, s31⟩
                  go_simp
                  with_reducible rfl
                 rotate_left
                 ·
                  simp only [Act.put, List.setIfInBounds_toArray, List.set_cons_zero, List.set_cons_succ, i64_w, i32_w]
                  rfl
                 refine pure_ (i := 10) (N := some 109) (v := ?_) (a' := ?_) #[J,J,J,J,J,J,J,J,J,J,J,O,O,O,O,O,O,O,O,O,O,O,O,O,O,O,O,O,O,O,O,O,O,O,O,O,O,O,O,O,O,O,O,O,O,O,O,O,O,O] rfl rfl (any_of HT_.out (by kernel_rfl)) (fun _ _ _ h => h) (Or.inl ⟨by rfl, ?_⟩) ?_ ?_
                 rotate_left
                 ·
                  intro w'
                  go_simp
                  with_reducible rfl
                 rotate_left
                 ·
                  simp only [Act.put, List.setIfInBounds_toArray, List.set_cons_zero, List.set_cons_succ, i64_w, i32_w]
                  rfl
                 refine pure_ (i := 11) (N := some 110) (v := ?_) (a' := ?_) #[J,J,J,J,J,J,J,J,J,J,J,J,O,O,O,O,O,O,O,O,O,O,O,O,O,O,O,O,O,O,O,O,O,O,O,O,O,O,O,O,O,O,O,O,O,O,O,O,O,O] rfl rfl (any_of HT_.out (by kernel_rfl)) (fun _ _ _ h => h) (Or.inl ⟨by rfl, ?_⟩) ?_ ?_
                 rotate_left
                 ·
                  intro w'
                  go_simp
                  with_reducible rfl
                 rotate_left
                 ·
                  simp only [Act.put, List.setIfInBounds_toArray, List.set_cons_zero, List.set_cons_succ, i64_w, i32_w]
                  rfl
                 refine pure_ (i := 12) (N := some 111) (v := ?_) (a' := ?_) #[J,J,J,J,J,J,J,J,J,J,J,J,J,O,O,O,O,O,O,O,O,O,O,O,O,O,O,O,O,O,O,O,O,O,O,O,O,O,O,O,O,O,O,O,O,O,O,O,O,O] rfl rfl (any_of HT_.out (by kernel_rfl)) (fun _ _ _ h => h) (Or.inl ⟨by rfl, ?_⟩) ?_ ?_
                 rotate_left
                 ·
                  intro w'
                  go_simp
                  with_reducible rfl
                 rotate_left
                 ·
                  simp only [Act.put, List.setIfInBounds_toArray, List.set_cons_zero, List.set_cons_succ, i64_w, i32_w]
                  rfl
                 refine pure_ (i := 13) (N := some 112) (v := ?_) (a' := ?_) #[J,J,J,J,J,J,J,J,J,J,J,J,J,J,O,O,O,O,O,O,O,O,O,O,O,O,O,O,O,O,O,O,O,O,O,O,O,O,O,O,O,O,O,O,O,O,O,O,O,O] rfl rfl (any_of HT_.out (by kernel_rfl)) (fun _ _ _ h => h) (Or.inl ⟨by rfl, ?_⟩) ?_ ?_
                 rotate_left
                 ·
                  intro w'
                  go_simp
                  with_reducible rfl
                 rotate_left
                 ·
                  simp only [Act.put, List.setIfInBounds_toArray, List.set_cons_zero, List.set_cons_succ, i64_w, i32_w]
                  rfl
                 refine pure_ (i := 14) (N := some 113) (v := ?_) (a' := ?_) #[J,J,J,J,J,J,J,J,J,J,J,J,J,J,J,O,O,O,O,O,O,O,O,O,O,O,O,O,O,O,O,O,O,O,O,O,O,O,O,O,O,O,O,O,O,O,O,O,O,O] rfl rfl (any_of HT_.out (by kernel_rfl)) (fun _ _ _ h => h) (Or.inl ⟨by rfl, ?_⟩) ?_ ?_
                 rotate_left
                 ·
                  intro w'
                  go_simp
                  with_reducible rfl
                 rotate_left
                 ·
                  simp only [Act.put, List.setIfInBounds_toArray, List.set_cons_zero, List.set_cons_succ, i64_w, i32_w]
                  rfl
                 refine pure_ (i := 15) (N := some 114) (v := ?_) (a' := ?_) #[J,J,J,J,J,J,J,J,J,J,J,J,J,J,J,J,O,O,O,O,O,O,O,O,O,O,O,O,O,O,O,O,O,O,O,O,O,O,O,O,O,O,O,O,O,O,O,O,O,O] rfl rfl (any_of HT_.out (by kernel_rfl)) (fun _ _ _ h => h) (Or.inl ⟨by rfl, ?_⟩) ?_ ?_
                 rotate_left
                 ·
                  intro w'
                  go_simp
                  with_reducible rfl
                 rotate_left
                 ·
                  simp only [Act.put, List.setIfInBounds_toArray, List.set_cons_zero, List.set_cons_succ, i64_w, i32_w]
                  rfl
                 refine pure_ (i := 17) (N := some 116) (v := ?_) (a' := ?_) #[J,J,J,J,J,J,J,J,J,J,J,J,J,J,J,J,O,J,O,O,O,O,O,O,O,O,O,O,O,O,O,O,O,O,O,O,O,O,O,O,O,O,O,O,O,O,O,O,O,O] rfl rfl (any_of HT_.out (by kernel_rfl)) (fun _ _ _ h => h) (Or.inl ⟨by rfl, ?_⟩) ?_ ?_
                 rotate_left
                 ·
                  intro w'
                  go_simp
                  with_reducible rfl
                 rotate_left
                 ·
                  simp only [Act.put, List.setIfInBounds_toArray, List.set_cons_zero, List.set_cons_succ, i64_w, i32_w]
                  rfl
                 refine pure_ (i := 18) (N := some 117) (v := ?_) (a' := ?_) #[J,J,J,J,J,J,J,J,J,J,J,J,J,J,J,J,O,J,J,O,O,O,O,O,O,O,O,O,O,O,O,O,O,O,O,O,O,O,O,O,O,O,O,O,O,O,O,O,O,O] rfl rfl (any_of HT_.out (by kernel_rfl)) (fun _ _ _ h => h) (Or.inl ⟨by rfl, ?_⟩) ?_ ?_
                 rotate_left
                 ·
                  intro w'
                  go_simp
                  with_reducible rfl
                 rotate_left
                 ·
                  simp only [Act.put, List.setIfInBounds_toArray, List.set_cons_zero, List.set_cons_succ, i64_w, i32_w]
                  rfl
                 refine pure_ (i := 19) (N := some 118) (v := ?_) (a' := ?_) #[J,J,J,J,J,J,J,J,J,J,J,J,J,J,J,J,O,J,J,J,O,O,O,O,O,O,O,O,O,O,O,O,O,O,O,O,O,O,O,O,O,O,O,O,O,O,O,O,O,O] rfl rfl (any_of HT_.out (by kernel_rfl)) (fun _ _ _ h => h) (Or.inl ⟨by rfl, ?_⟩) ?_ ?_
                 rotate_left
                 ·
                  intro w'
                  go_simp
                  with_reducible rfl
                 rotate_left
                 ·
                  simp only [Act.put, List.setIfInBounds_toArray, List.set_cons_zero, List.set_cons_succ, i64_w, i32_w]
                  rfl
                 refine pure_ (i := 20) (N := some 119) (v := ?_) (a' := ?_) #[J,J,J,J,J,J,J,J,J,J,J,J,J,J,J,J,O,J,J,J,J,O,O,O,O,O,O,O,O,O,O,O,O,O,O,O,O,O,O,O,O,O,O,O,O,O,O,O,O,O] rfl rfl (any_of HT_.out (by kernel_rfl)) (fun _ _ _ h => h) (Or.inl ⟨by rfl, ?_⟩) ?_ ?_
                 rotate_left
                 ·
                  intro w'
                  go_simp
                  with_reducible rfl
                 rotate_left
                 ·
                  simp only [Act.put, List.setIfInBounds_toArray, List.set_cons_zero, List.set_cons_succ, i64_w, i32_w]
                  rfl
                 refine take_ (i := 16) (N := some 115) (v := ?_) (a' := ?_) #[J,J,J,J,J,J,J,J,J,J,J,J,J,J,J,J,J,J,J,J,J,O,O,O,O,O,O,O,O,O,O,O,O,O,O,O,O,O,O,O,O,O,O,O,O,O,O,O,O,O] rfl rfl (take_ofW HT_.out HW_.out (by kernel_rfl)) (fun _ _ _ h => h) (Or.inl ⟨by rfl, ?_⟩) hHeld ?_ ?_
                 rotate_left
                 ·
                  rintro w' ⟨s0, s1, s2, s3, s4, s5, s6, s7, s8, s9, s10, s11, s12, s13, s14, s15, s16, s17, s18, s19, s20, s21, s22, s23, s24, s25, s26, s27, s28, s29, s30, s31⟩
                  go_simp
                  with_reducible rfl
                 rotate_left
                 ·
                  simp only [Act.put, List.setIfInBounds_toArray, List.set_cons_zero, List.set_cons_succ, i64_w, i32_w]
                  rfl
                 refine take_ (i := 21) (N := some 120) (v := ?_) (a' := ?_) #[J,J,J,J,J,J,J,J,J,J,J,J,J,J,J,J,J,J,J,J,J,J,O,O,O,O,O,O,O,O,O,O,O,O,O,O,O,O,O,O,O,O,O,O,O,O,O,O,O,O] rfl rfl (take_ofW HT_.out HW_.out (by kernel_rfl)) (fun _ _ _ h => h) (Or.inl ⟨by rfl, ?_⟩) hHeld ?_ ?_
                 rotate_left
                 ·
                  rintro w' ⟨s0, s1, s2, s3, s4, s5, s6, s7, s8, s9, s10, s11, s12, s13, s14, s15, s16, s17, s18, s19, s20, s21, s22, s23, s24, s25, s26, s27, s28, s29, s30, s31⟩
                  go_simp
                  with_reducible rfl
                 rotate_left
                 ·
                  simp only [Act.put, List.setIfInBounds_toArray, List.set_cons_zero, List.set_cons_succ, i64_w, i32_w]
                  rfl
                 refine pure_ (i := 22) (N := some 121) (v := ?_) (a' := ?_) #[J,J,J,J,J,J,J,J,J,J,J,J,J,J,J,J,J,J,J,J,J,J,J,O,O,O,O,O,O,O,O,O,O,O,O,O,O,O,O,O,O,O,O,O,O,O,O,O,O,O] rfl rfl (any_of HT_.out (by kernel_rfl)) (fun _ _ _ h => h) (Or.inl ⟨by rfl, ?_⟩) ?_ ?_
                 rotate_left
                 ·
                  intro w'
                  go_simp
                  with_reducible rfl
                 rotate_left
                 ·
                  simp only [Act.put, List.setIfInBounds_toArray, List.set_cons_zero, List.set_cons_succ, i64_w, i32_w]
                  rfl
                 refine pure_ (i := 23) (N := some 122) (v := ?_) (a' := ?_) #[J,J,J,J,J,J,J,J,J,J,J,J,J,J,J,J,J,J,J,J,J,J,J,J,O,O,O,O,O,O,O,O,O,O,O,O,O,O,O,O,O,O,O,O,O,O,O,O,O,O] rfl rfl (any_of HT_.out (by kernel_rfl)) (fun _ _ _ h => h) (Or.inl ⟨by rfl, ?_⟩) ?_ ?_
                 rotate_left
                 ·
                  intro w'
                  go_simp
                  with_reducible rfl
                 rotate_left
                 ·
                  simp only [Act.put, List.setIfInBounds_toArray, List.set_cons_zero, List.set_cons_succ, i64_w, i32_w]
                  rfl
                 refine pure_ (i := 24) (N := some 123) (v := ?_) (a' := ?_) #[J,J,J,J,J,J,J,J,J,J,J,J,J,J,J,J,J,J,J,J,J,J,J,J,J,O,O,O,O,O,O,O,O,O,O,O,O,O,O,O,O,O,O,O,O,O,O,O,O,O] rfl rfl (any_of HT_.out (by kernel_rfl)) (fun _ _ _ h => h) (Or.inl ⟨by rfl, ?_⟩) ?_ ?_
                 rotate_left
                 ·
                  intro w'
                  go_simp
                  with_reducible rfl
                 rotate_left
                 ·
                  simp only [Act.put, List.setIfInBounds_toArray, List.set_cons_zero, List.set_cons_succ, i64_w, i32_w]
                  rfl
                 refine pure_ (i := 25) (N := some 124) (v := ?_) (a' := ?_) #[J,J,J,J,J,J,J,J,J,J,J,J,J,J,J,J,J,J,J,J,J,J,J,J,J,J,O,O,O,O,O,O,O,O,O,O,O,O,O,O,O,O,O,O,O,O,O,O,O,O] rfl rfl (any_of HT_.out (by kernel_rfl)) (fun _ _ _ h => h) (Or.inl ⟨by rfl, ?_⟩) ?_ ?_
                 rotate_left
                 ·
                  intro w'
                  go_simp
                  with_reducible rfl
                 rotate_left
                 ·
                  simp only [Act.put, List.setIfInBounds_toArray, List.set_cons_zero, List.set_cons_succ, i64_w, i32_w]
                  rfl
                 refine pure_ (i := 26) (N := some 125) (v := ?_) (a' := ?_) #[J,J,J,J,J,J,J,J,J,J,J,J,J,J,J,J,J,J,J,J,J,J,J,J,J,J,J,O,O,O,O,O,O,O,O,O,O,O,O,O,O,O,O,O,O,O,O,O,O,O] rfl rfl (any_of HT_.out (by kernel_rfl)) (fun _ _ _ h => h) (Or.inl ⟨by rfl, ?_⟩) ?_ ?_
                 rotate_left
                 ·
                  intro w'
                  go_simp
                  with_reducible rfl
                 rotate_left
                 ·
                  simp only [Act.put, List.setIfInBounds_toArray, List.set_cons_zero, List.set_cons_succ, i64_w, i32_w]
                  rfl
                 refine pure_ (i := 27) (N := some 126) (v := ?_) (a' := ?_) #[J,J,J,J,J,J,J,J,J,J,J,J,J,J,J,J,J,J,J,J,J,J,J,J,J,J,J,J,O,O,O,O,O,O,O,O,O,O,O,O,O,O,O,O,O,O,O,O,O,O] rfl rfl (any_of HT_.out (by kernel_rfl)) (fun _ _ _ h => h) (Or.inl ⟨by rfl, ?_⟩) ?_ ?_
                 rotate_left
                 ·
                  intro w'
                  go_simp
                  with_reducible rfl
                 rotate_left
                 ·
                  simp only [Act.put, List.setIfInBounds_toArray, List.set_cons_zero, List.set_cons_succ, i64_w, i32_w]
                  rfl
                 refine pure_ (i := 28) (N := some 127) (v := ?_) (a' := ?_) #[J,J,J,J,J,J,J,J,J,J,J,J,J,J,J,J,J,J,J,J,J,J,J,J,J,J,J,J,J,O,O,O,O,O,O,O,O,O,O,O,O,O,O,O,O,O,O,O,O,O] rfl rfl (any_of HT_.out (by kernel_rfl)) (fun _ _ _ h => h) (Or.inl ⟨by rfl, ?_⟩) ?_ ?_
                 rotate_left
                 ·
                  intro w'
                  go_simp
                  with_reducible rfl
                 rotate_left
                 ·
                  simp only [Act.put, List.setIfInBounds_toArray, List.set_cons_zero, List.set_cons_succ, i64_w, i32_w]
                  rfl
                 refine pure_ (i := 30) (N := some 129) (v := ?_) (a' := ?_) #[J,J,J,J,J,J,J,J,J,J,J,J,J,J,J,J,J,J,J,J,J,J,J,J,J,J,J,J,J,O,J,O,O,O,O,O,O,O,O,O,O,O,O,O,O,O,O,O,O,O] rfl rfl (any_of HT_.out (by kernel_rfl)) (fun _ _ _ h => h) (Or.inl ⟨by rfl, ?_⟩) ?_ ?_
                 rotate_left
                 ·
                  intro w'
                  go_simp
                  with_reducible rfl
                 rotate_left
                 ·
                  simp only [Act.put, List.setIfInBounds_toArray, List.set_cons_zero, List.set_cons_succ, i64_w, i32_w]
                  rfl
                 refine pure_ (i := 31) (N := some 130) (v := ?_) (a' := ?_) #[J,J,J,J,J,J,J,J,J,J,J,J,J,J,J,J,J,J,J,J,J,J,J,J,J,J,J,J,J,O,J,J,O,O,O,O,O,O,O,O,O,O,O,O,O,O,O,O,O,O] rfl rfl (any_of HT_.out (by kernel_rfl)) (fun _ _ _ h => h) (Or.inl ⟨by rfl, ?_⟩) ?_ ?_
                 rotate_left
                 ·
                  intro w'
                  go_simp
                  with_reducible rfl
                 rotate_left
                 ·
                  simp only [Act.put, List.setIfInBounds_toArray, List.set_cons_zero, List.set_cons_succ, i64_w, i32_w]
                  rfl
                 refine pure_ (i := 32) (N := some 131) (v := ?_) (a' := ?_) #[J,J,J,J,J,J,J,J,J,J,J,J,J,J,J,J,J,J,J,J,J,J,J,J,J,J,J,J,J,O,J,J,J,O,O,O,O,O,O,O,O,O,O,O,O,O,O,O,O,O] rfl rfl (any_of HT_.out (by kernel_rfl)) (fun _ _ _ h => h) (Or.inl ⟨by rfl, ?_⟩) ?_ ?_
                 rotate_left
                 ·
                  intro w'
                  go_simp
                  with_reducible rfl
                 rotate_left
                 ·
                  simp only [Act.put, List.setIfInBounds_toArray, List.set_cons_zero, List.set_cons_succ, i64_w, i32_w]
                  rfl
                 refine pure_ (i := 33) (N := some 132) (v := ?_) (a' := ?_) #[J,J,J,J,J,J,J,J,J,J,J,J,J,J,J,J,J,J,J,J,J,J,J,J,J,J,J,J,J,O,J,J,J,J,O,O,O,O,O,O,O,O,O,O,O,O,O,O,O,O] rfl rfl (any_of HT_.out (by kernel_rfl)) (fun _ _ _ h => h) (Or.inl ⟨by rfl, ?_⟩) ?_ ?_
                 rotate_left
                 ·
                  intro w'
                  go_simp
                  with_reducible rfl
                 rotate_left
                 ·
                  simp only [Act.put, List.setIfInBounds_toArray, List.set_cons_zero, List.set_cons_succ, i64_w, i32_w]
                  rfl
                 refine take_ (i := 29) (N := some 128) (v := ?_) (a' := ?_) #[J,J,J,J,J,J,J,J,J,J,J,J,J,J,J,J,J,J,J,J,J,J,J,J,J,J,J,J,J,J,J,J,J,J,O,O,O,O,O,O,O,O,O,O,O,O,O,O,O,O] rfl rfl (take_ofW HT_.out HW_.out (by kernel_rfl)) (fun _ _ _ h => h) (Or.inl ⟨by rfl, ?_⟩) hHeld ?_ ?_
                 rotate_left
                 ·
                  rintro w' ⟨s0, s1, s2, s3, s4, s5, s6, s7, s8, s9, s10, s11, s12, s13, s14, s15, s16, s17, s18, s19, s20, s21, s22, s23, s24, s25, s26, s27, s28, s29, s30, s31⟩
                  go_simp
                  with_reducible rfl
                 rotate_left
                 ·
                  simp only [Act.put, List.setIfInBounds_toArray, List.set_cons_zero, List.set_cons_succ, i64_w, i32_w]
                  rfl
                 refine take_ (i := 34) (N := some 133) (v := ?_) (a' := ?_) #[J,J,J,J,J,J,J,J,J,J,J,J,J,J,J,J,J,J,J,J,J,J,J,J,J,J,J,J,J,J,J,J,J,J,J,O,O,O,O,O,O,O,O,O,O,O,O,O,O,O] rfl rfl (take_ofW HT_.out HW_.out (by kernel_rfl)) (fun _ _ _ h => h) (Or.inl ⟨by rfl, ?_⟩) hHeld ?_ ?_
                 rotate_left
                 ·
                  rintro w' ⟨s0, s1, s2, s3, s4, s5, s6, s7, s8, s9, s10, s11, s12, s13, s14, s15, s16, s17, s18, s19, s20, s21, s22, s23, s24, s25, s26, s27, s28, s29, s30, s31⟩
                  go_simp
                  with_reducible rfl
                 rotate_left
                 ·
                  simp only [Act.put, List.setIfInBounds_toArray, List.set_cons_zero, List.set_cons_succ, i64_w, i32_w]
                  rfl
                 refine pure_ (i := 35) (N := some 134) (v := ?_) (a' := ?_) #[J,J,J,J,J,J,J,J,J,J,J,J,J,J,J,J,J,J,J,J,J,J,J,J,J,J,J,J,J,J,J,J,J,J,J,J,O,O,O,O,O,O,O,O,O,O,O,O,O,O] rfl rfl (any_of HT_.out (by kernel_rfl)) (fun _ _ _ h => h) (Or.inl ⟨by rfl, ?_⟩) ?_ ?_
                 rotate_left
                 ·
                  intro w'
                  go_simp
                  with_reducible rfl
                 rotate_left
                 ·
                  simp only [Act.put, List.setIfInBounds_toArray, List.set_cons_zero, List.set_cons_succ, i64_w, i32_w]
                  rfl
                 refine pure_ (i := 36) (N := some 135) (v := ?_) (a' := ?_) #[J,J,J,J,J,J,J,J,J,J,J,J,J,J,J,J,J,J,J,J,J,J,J,J,J,J,J,J,J,J,J,J,J,J,J,J,J,O,O,O,O,O,O,O,O,O,O,O,O,O] rfl rfl (any_of HT_.out (by kernel_rfl)) (fun _ _ _ h => h) (Or.inl ⟨by rfl, ?_⟩) ?_ ?_
                 rotate_left
                 ·
                  intro w'
                  go_simp
                  with_reducible rfl
                 rotate_left
                 ·
                  simp only [Act.put, List.setIfInBounds_toArray, List.set_cons_zero, List.set_cons_succ, i64_w, i32_w]
                  rfl
                 refine pure_ (i := 37) (N := some 136) (v := ?_) (a' := ?_) #[J,J,J,J,J,J,J,J,J,J,J,J,J,J,J,J,J,J,J,J,J,J,J,J,J,J,J,J,J,J,J,J,J,J,J,J,J,J,O,O,O,O,O,O,O,O,O,O,O,O] rfl rfl (any_of HT_.out (by kernel_rfl)) (fun _ _ _ h => h) (Or.inl ⟨by rfl, ?_⟩) ?_ ?_
                 rotate_left
                 ·
                  intro w'
                  go_simp
                  with_reducible rfl
                 rotate_left
                 ·
                  simp only [Act.put, List.setIfInBounds_toArray, List.set_cons_zero, List.set_cons_succ, i64_w, i32_w]
                  rfl
                 refine pure_ (i := 38) (N := some 137) (v := ?_) (a' := ?_) #[J,J,J,J,J,J,J,J,J,J,J,J,J,J,J,J,J,J,J,J,J,J,J,J,J,J,J,J,J,J,J,J,J,J,J,J,J,J,J,O,O,O,O,O,O,O,O,O,O,O] rfl rfl (any_of HT_.out (by kernel_rfl)) (fun _ _ _ h => h) (Or.inl ⟨by rfl, ?_⟩) ?_ ?_
                 rotate_left
                 ·
                  intro w'
                  go_simp
                  with_reducible rfl
                 rotate_left
                 ·
                  simp only [Act.put, List.setIfInBounds_toArray, List.set_cons_zero, List.set_cons_succ, i64_w, i32_w]
                  rfl
                 refine pure_ (i := 39) (N := some 138) (v := ?_) (a' := ?_) #[J,J,J,J,J,J,J,J,J,J,J,J,J,J,J,J,J,J,J,J,J,J,J,J,J,J,J,J,J,J,J,J,J,J,J,J,J,J,J,J,O,O,O,O,O,O,O,O,O,O] rfl rfl (any_of HT_.out (by kernel_rfl)) (fun _ _ _ h => h) (Or.inl ⟨by rfl, ?_⟩) ?_ ?_
                 rotate_left
                 ·
                  intro w'
                  go_simp
                  with_reducible rfl
                 rotate_left
                 ·
                  simp only [Act.put, List.setIfInBounds_toArray, List.set_cons_zero, List.set_cons_succ, i64_w, i32_w]
                  rfl
                 refine pure_ (i := 40) (N := some 139) (v := ?_) (a' := ?_) #[J,J,J,J,J,J,J,J,J,J,J,J,J,J,J,J,J,J,J,J,J,J,J,J,J,J,J,J,J,J,J,J,J,J,J,J,J,J,J,J,J,O,O,O,O,O,O,O,O,O] rfl rfl (any_of HT_.out (by kernel_rfl)) (fun _ _ _ h => h) (Or.inl ⟨by rfl, ?_⟩) ?_ ?_
                 rotate_left
                 ·
                  intro w'
                  go_simp
                  with_reducible rfl
                 rotate_left
                 ·
                  simp only [Act.put, List.setIfInBounds_toArray, List.set_cons_zero, List.set_cons_succ, i64_w, i32_w]
                  rfl
                 refine pure_ (i := 41) (N := some 140) (v := ?_) (a' := ?_) #[J,J,J,J,J,J,J,J,J,J,J,J,J,J,J,J,J,J,J,J,J,J,J,J,J,J,J,J,J,J,J,J,J,J,J,J,J,J,J,J,J,J,O,O,O,O,O,O,O,O] rfl rfl (any_of HT_.out (by kernel_rfl)) (fun _ _ _ h => h) (Or.inl ⟨by rfl, ?_⟩) ?_ ?_
                 rotate_left
                 ·
                  intro w'
                  go_simp
                  with_reducible rfl
                 rotate_left
                 ·
                  simp only [Act.put, List.setIfInBounds_toArray, List.set_cons_zero, List.set_cons_succ, i64_w, i32_w]
                  rfl
                 refine pure_ (i := 43) (N := some 142) (v := ?_) (a' := ?_) #[J,J,J,J,J,J,J,J,J,J,J,J,J,J,J,J,J,J,J,J,J,J,J,J,J,J,J,J,J,J,J,J,J,J,J,J,J,J,J,J,J,J,O,J,O,O,O,O,O,O] rfl rfl (any_of HT_.out (by kernel_rfl)) (fun _ _ _ h => h) (Or.inl ⟨by rfl, ?_⟩) ?_ ?_
                 rotate_left
                 ·
                  intro w'
                  go_simp
                  with_reducible rfl
                 rotate_left
                 ·
                  simp only [Act.put, List.setIfInBounds_toArray, List.set_cons_zero, List.set_cons_succ, i64_w, i32_w]
                  rfl
                 refine pure_ (i := 44) (N := some 143) (v := ?_) (a' := ?_) #[J,J,J,J,J,J,J,J,J,J,J,J,J,J,J,J,J,J,J,J,J,J,J,J,J,J,J,J,J,J,J,J,J,J,J,J,J,J,J,J,J,J,O,J,J,O,O,O,O,O] rfl rfl (any_of HT_.out (by kernel_rfl)) (fun _ _ _ h => h) (Or.inl ⟨by rfl, ?_⟩) ?_ ?_
                 rotate_left
                 ·
                  intro w'
                  go_simp
                  with_reducible rfl
                 rotate_left
                 ·
                  simp only [Act.put, List.setIfInBounds_toArray, List.set_cons_zero, List.set_cons_succ, i64_w, i32_w]
                  rfl
                 refine pure_ (i := 45) (N := some 144) (v := ?_) (a' := ?_) #[J,J,J,J,J,J,J,J,J,J,J,J,J,J,J,J,J,J,J,J,J,J,J,J,J,J,J,J,J,J,J,J,J,J,J,J,J,J,J,J,J,J,O,J,J,J,O,O,O,O] rfl rfl (any_of HT_.out (by kernel_rfl)) (fun _ _ _ h => h) (Or.inl ⟨by rfl, ?_⟩) ?_ ?_
                 rotate_left
                 ·
                  intro w'
                  go_simp
                  with_reducible rfl
                 rotate_left
                 ·
                  simp only [Act.put, List.setIfInBounds_toArray, List.set_cons_zero, List.set_cons_succ, i64_w, i32_w]
                  rfl
                 refine pure_ (i := 46) (N := some 145) (v := ?_) (a' := ?_) #[J,J,J,J,J,J,J,J,J,J,J,J,J,J,J,J,J,J,J,J,J,J,J,J,J,J,J,J,J,J,J,J,J,J,J,J,J,J,J,J,J,J,O,J,J,J,J,O,O,O] rfl rfl (any_of HT_.out (by kernel_rfl)) (fun _ _ _ h => h) (Or.inl ⟨by rfl, ?_⟩) ?_ ?_
                 rotate_left
                 ·
                  intro w'
                  go_simp
                  with_reducible rfl
                 rotate_left
                 ·
                  simp only [Act.put, List.setIfInBounds_toArray, List.set_cons_zero, List.set_cons_succ, i64_w, i32_w]
                  rfl
                 refine take_ (i := 42) (N := some 141) (v := ?_) (a' := ?_) #[J,J,J,J,J,J,J,J,J,J,J,J,J,J,J,J,J,J,J,J,J,J,J,J,J,J,J,J,J,J,J,J,J,J,J,J,J,J,J,J,J,J,J,J,J,J,J,O,O,O] rfl rfl (take_ofW HT_.out HW_.out (by kernel_rfl)) (fun _ _ _ h => h) (Or.inl ⟨by rfl, ?_⟩) hHeld ?_ ?_
                 rotate_left
                 ·
                  rintro w' ⟨s0, s1, s2, s3, s4, s5, s6, s7, s8, s9, s10, s11, s12, s13, s14, s15, s16, s17, s18, s19, s20, s21, s22, s23, s24, s25, s26, s27, s28, s29, s30, s31⟩
                  go_simp
                  with_reducible rfl
                 rotate_left
                 ·
                  simp only [Act.put, List.setIfInBounds_toArray, List.set_cons_zero, List.set_cons_succ, i64_w, i32_w]
                  rfl
                 refine take_ (i := 47) (N := some 146) (v := ?_) (a' := ?_) #[J,J,J,J,J,J,J,J,J,J,J,J,J,J,J,J,J,J,J,J,J,J,J,J,J,J,J,J,J,J,J,J,J,J,J,J,J,J,J,J,J,J,J,J,J,J,J,J,O,O] rfl rfl (take_ofW HT_.out HW_.out (by kernel_rfl)) (fun _ _ _ h => h) (Or.inl ⟨by rfl, ?_⟩) hHeld ?_ ?_
                 rotate_left
                 ·
                  rintro w' ⟨s0, s1, s2, s3, s4, s5, s6, s7, s8, s9, s10, s11, s12, s13, s14, s15, s16, s17, s18, s19, s20, s21, s22, s23, s24, s25, s26, s27, s28, s29, s30, s31⟩
                  go_simp
                  with_reducible rfl
                 rotate_left
                 ·
                  simp only [Act.put, List.setIfInBounds_toArray, List.set_cons_zero, List.set_cons_succ, i64_w, i32_w]
                  rfl
                 refine pure_ (i := 48) (N := some 147) (v := ?_) (a' := ?_) #[J,J,J,J,J,J,J,J,J,J,J,J,J,J,J,J,J,J,J,J,J,J,J,J,J,J,J,J,J,J,J,J,J,J,J,J,J,J,J,J,J,J,J,J,J,J,J,J,J,O] rfl rfl (any_of HT_.out (by kernel_rfl)) (fun _ _ _ h => h) (Or.inl ⟨by rfl, ?_⟩) ?_ ?_
                 rotate_left
                 ·
                  intro w'
                  go_simp
                  with_reducible rfl
                 rotate_left
                 ·
                  simp only [Act.put, List.setIfInBounds_toArray, List.set_cons_zero, List.set_cons_succ, i64_w, i32_w]
                  rfl
                 refine pure_ (i := 49) (N := some 148) (v := ?_) (a' := ?_) #[J,J,J,J,J,J,J,J,J,J,J,J,J,J,J,J,J,J,J,J,J,J,J,J,J,J,J,J,J,J,J,J,J,J,J,J,J,J,J,J,J,J,J,J,J,J,J,J,J,J] rfl rfl (any_of HT_.out (by kernel_rfl)) (fun _ _ _ h => h) (Or.inl ⟨by rfl, ?_⟩) ?_ ?_
                 rotate_left
                 ·
                  intro w'
                  go_simp
                  with_reducible rfl
                 rotate_left
                 ·
                  simp only [Act.put, List.setIfInBounds_toArray, List.set_cons_zero, List.set_cons_succ, i64_w, i32_w]
                  rfl
                 refine done_ (done_of HT_.out (by kernel_rfl)) ?_
                 try go_wp2
                 go_meet
                 case rel => exact ⟨_, (decide (((rd_T37 t271 x19_2).f3) > ((rd_T37 t277 x19_2).f3))), (by first | rfl | (simp; done) | (simp [*]; done)), H', ⟨by have := HJ6.out; have := HK2.out; first | omega | exact Nat.le_refl _⟩, ⟨by (with_reducible repeat (first | apply Kd.R_alloc | apply Kd.R_drewN | apply Kd.R_drew)); exact HO_12.out⟩, ⟨by (with_reducible repeat (first | apply Kd.R_alloc | apply Kd.R_drewN | apply Kd.R_drew)); exact HO_16.out⟩, ⟨by (with_reducible repeat (first | refine blk_drewN ?_ _ | refine blk_drew ?_ | refine blk_alloc ?_ _)); exact BK267.out⟩, ⟨by (with_reducible repeat (first | refine blk_drewN ?_ _ | refine blk_drew ?_ | refine blk_alloc ?_ _)); exact BK268.out⟩, ⟨by (with_reducible repeat (first | refine blk_drewN ?_ _ | refine blk_drew ?_ | refine blk_alloc ?_ _)); exact BK276.out⟩, ⟨by repeat (first | (with_reducible first | exact HB.out | apply below_alloc | apply pw_below_drewN | apply below_drew1 | refine below_set ?_ GE267.out | refine below_set ?_ GE268.out | refine below_set ?_ GE276.out) | exact HB.out)⟩⟩
               ·
                rw [if_neg c64] at H
                have c64b0 : (((rd_T37 t271 x19_2).f1) == ((rd_T37 t277 x19_2).f1)) = false := beq_eq_false_iff_ne.mpr c64
                have c64b1 : (((rd_T37 t271 x19_2).f1) != ((rd_T37 t277 x19_2).f1)) = true := bne_iff_ne.mpr c64
                exact absurd H (by cases k2 <;> simp [erratalaw20_BoundsGrow.j2])
              ·
               rw [if_neg c63] at H
               have c63b0 : (((rd_T37 t271 x19_2).f0) == ((rd_T37 t277 x19_2).f0)) = false := beq_eq_false_iff_ne.mpr c63
               have c63b1 : (((rd_T37 t271 x19_2).f0) != ((rd_T37 t277 x19_2).f0)) = true := bne_iff_ne.mpr c63
               exact absurd H (by cases k2 <;> simp [erratalaw20_BoundsGrow.j2])
             ·
              rw [if_neg c62] at H
              exact absurd H (by simp)
            ·
             rw [if_neg c61] at H
             exact absurd H (by simp)
           case rest =>
            clear HC60
            try clear p2
            try clear q2
            try clear hx2
            try clear c5
            try clear c6
            try clear p6
            try clear p28
            try clear q28
            try clear hx28
            try clear c59
            try clear c59b0
            try clear c61
            try clear c61b0
            try clear c62
            try clear c62b0
            try clear c63
            try clear c63b0
            try clear c63b1
            try clear c64
            try clear c64b0
            try clear c64b1
            try clear p64
            try clear c65
            try clear c65b0
            try clear hcz31_0
            try clear hcz31_1
            try clear hcz34_0
            try clear hcz34_1
            try clear hcz37_0
            try clear hcz37_1
            try clear hcz45_0
            try clear hcz45_1
            try clear hcz46_0
            try clear hcz46_1
            try clear hcz46_2
            try clear hcz46_3
            try clear hcz46_4
            try clear hcz46_5
            try clear hcz48_0
            try clear hcz48_1
            try clear hcz48_2
            try clear hcz48_3
            try clear hcz48_4
            try clear hcz48_5
            try clear hcz52_0
            try clear hcz52_1
            try clear hcz52_2
            try clear hcz52_3
            try clear hcz52_4
            try clear hcz52_5
            try clear hcz53_0
            try clear hcz53_1
            try clear hfz15_0
            try clear hfz15_1
            try clear hfz19_0
            try clear hfz19_1
            try clear hfz23_0
            try clear hfz23_1
            try clear hfz27_0
            try clear hfz27_1
            try clear hfz31_0
            try clear hfz31_1
            try clear hfz34_0
            try clear hfz34_1
            try clear hfz37_0
            try clear hfz37_1
            try clear hfz45_0
            try clear hfz45_1
            try clear hfz46_0
            try clear hfz46_1
            try clear hfz46_2
            try clear hfz46_3
            try clear hfz46_4
            try clear hfz46_5
            try clear hfz48_0
            try clear hfz48_1
            try clear hfz48_2
            try clear hfz48_3
            try clear hfz48_4
            try clear hfz48_5
            try clear hfz52_0
            try clear hfz52_1
            try clear hfz52_2
            try clear hfz52_3
            try clear hfz52_4
            try clear hfz52_5
            try clear hfz53_0
            try clear hfz53_1
            try clear hx282_0
            try clear hx282_1
            try clear hx282_2
            try clear hx282_3
            try clear hx283_0
            try clear hx283_1
            try clear hx283_2
            try clear hx283_3
            try clear hx284_0
            try clear hx284_1
            try clear hx284_2
            try clear hx284_3
            try clear hx285_0
            try clear hx285_1
            try clear hx285_2
            try clear hx285_3
            try clear hx286_0
            try clear hx286_1
            try clear hx286_2
            try clear hx286_3
            try clear hx287_0
            try clear hx287_1
            try clear hx287_2
            try clear hx287_3
            try clear hx288_0
            try clear hx288_1
            try clear hx288_2
            try clear hx288_3
            try clear hx289_0
            try clear hx289_1
            try clear hx289_2
            try clear hx289_3
            try clear p2
            try clear p282
            try clear p283
            try clear p284
            try clear p285
            try clear p286
            try clear p287
            try clear p288
            try clear p289
            try clear q282
            try clear q283
            try clear q284
            try clear q285
            try clear q286
            try clear q287
            try clear q288
            try clear q289
            obtain ⟨kq, x148_59, rfl, HA, HJ59, HO_12, HO_16, BK267, BK268, BK276, HB⟩ := hcut
            cases kq with
            | zero => exact absurd HA.out (by simp [erratalaw20_BoundsGrow.j2])
            | succ kj59 =>
             have H := HA.out
             clear HA
             simp only [erratalaw20_BoundsGrow.j2] at H
             by_cases c67 : x148_59 = true
             ·
              subst c67
              have H1 : (some false) = some true := by rw [if_pos rfl] at H; exact H
              clear H
              have H := H1
              clear H1
              cases H
             ·
              replace c67 := Bool.eq_false_iff.mpr c67
              subst c67
              have H1 : (erratalaw20_BoundsGrow.l0 kj59 t269 t271 t277 (wrap64 (x19_2 + 1)) l0_0 l0_1 a1_0 a1_1 a1_2 a1_3 a1_4 a1_5) = some true := by rw [if_neg (show ¬ (false = true) by decide)] at H; exact H
              clear H
              have H := H1
              clear H1
              have H' := Aside0.mk H
              clear H
              go_wp2
              go_roundg kj59
              case measure => have := HJ6.out; have := HK2.out; have := HJ59.out; omega
              case rel => exact ⟨(wrap64 (x19_2 + 1)), (by first | rfl | (simp; done) | (simp [*]; done)), H', ⟨by have := HJ6.out; have := HK2.out; have := HJ59.out; omega⟩, ⟨by (with_reducible repeat (first | apply Kd.R_alloc | apply Kd.R_drewN | apply Kd.R_drew)); exact HO_12.out⟩, ⟨by (with_reducible repeat (first | apply Kd.R_alloc | apply Kd.R_drewN | apply Kd.R_drew)); exact HO_16.out⟩, ⟨by (with_reducible repeat (first | refine blk_drewN ?_ _ | refine blk_drew ?_ | refine blk_alloc ?_ _)); exact BK267.out⟩, ⟨by (with_reducible repeat (first | refine blk_drewN ?_ _ | refine blk_drew ?_ | refine blk_alloc ?_ _)); exact BK268.out⟩, ⟨by (with_reducible repeat (first | refine blk_drewN ?_ _ | refine blk_drew ?_ | refine blk_alloc ?_ _)); exact BK276.out⟩, ⟨by repeat (first | (with_reducible first | exact HB.out | apply below_alloc | apply pw_below_drewN | apply below_drew1 | refine below_set ?_ GE267.out | refine below_set ?_ GE268.out | refine below_set ?_ GE276.out) | exact HB.out)⟩⟩
          ·
           rw [if_neg c59] at H
           have c59b0 : decide (x19_2 < (t271.length : Int)) = false := decide_eq_false c59
           clear c59
           have H' := Aside0.mk H
           clear H
           go_wp2
           go_meet
           case rel => exact ⟨_, H', ⟨by have := HJ6.out; have := HK2.out; first | omega | exact Nat.le_refl _⟩, ⟨by (with_reducible repeat (first | apply Kd.R_alloc | apply Kd.R_drewN | apply Kd.R_drew)); exact Kd.R_mono HO_12.out (fun _ hk => trivial)⟩, ⟨by (with_reducible repeat (first | refine blk_drewN ?_ _ | refine blk_drew ?_ | refine blk_alloc ?_ _)); exact BK267.out⟩, ⟨by (with_reducible repeat (first | refine blk_drewN ?_ _ | refine blk_drew ?_ | refine blk_alloc ?_ _)); exact BK268.out⟩, ⟨by (with_reducible repeat (first | refine blk_drewN ?_ _ | refine blk_drew ?_ | refine blk_alloc ?_ _)); exact BK276.out⟩, ⟨by repeat (first | (with_reducible first | exact HB.out | apply below_alloc | apply pw_below_drewN | apply below_drew1 | refine below_set ?_ GE267.out | refine below_set ?_ GE268.out | refine below_set ?_ GE276.out) | exact HB.out)⟩⟩
       ·
        rw [if_neg c56] at H
        have c56b0 : ((t271.length : Int) == (t277.length : Int)) = false := beq_eq_false_iff_ne.mpr c56
        have c56b1 : ((t271.length : Int) != (t277.length : Int)) = true := bne_iff_ne.mpr c56
        have c56b2 : (t271.length == t277.length) = false := by first | simpa using c56 | (simp at c56 ⊢; omega)
        cases H
      ·
       rw [if_neg c55] at H
       have c55b0 : (t281 == 0) = false := beq_eq_false_iff_ne.mpr c55
       have c55b1 : (t281 != 0) = true := bne_iff_ne.mpr c55
       (first | rw [c55b0] | (simp only [i64_w, i32_w]; rw [c55b0]) | skip)
       have H' := Aside0.mk H
       clear H
       go_wp2
       go_meet
       case rel => exact ⟨_, H', ⟨by have := HJ6.out; first | omega | exact Nat.le_refl _⟩, ⟨by (with_reducible repeat (first | apply Kd.R_alloc | apply Kd.R_drewN | apply Kd.R_drew)); exact Kd.R_mono HO273.out (fun _ hk => trivial)⟩, ⟨by (with_reducible repeat (first | refine blk_drewN ?_ _ | refine blk_drew ?_ | refine blk_alloc ?_ _)); exact BK267.out⟩, ⟨by (with_reducible repeat (first | refine blk_drewN ?_ _ | refine blk_drew ?_ | refine blk_alloc ?_ _)); exact BK268.out⟩, ⟨by (with_reducible repeat (first | refine blk_drewN ?_ _ | refine blk_drew ?_ | refine blk_alloc ?_ _)); exact BK276.out⟩, ⟨by repeat (first | (with_reducible first | exact HB.out | apply below_alloc | apply pw_below_drewN | apply below_drew1 | refine below_set ?_ GE267.out | refine below_set ?_ GE268.out | refine below_set ?_ GE276.out) | exact HB.out)⟩⟩
     case rest =>
      clear HC43
      try clear p2
      try clear q2
      try clear hx2
      try clear c5
      try clear c6
      try clear p6
      try clear p28
      try clear q28
      try clear hx28
      try clear c55
      try clear c55b0
      try clear c55b1
      try clear c56
      try clear c56b0
      try clear c56b1
      try clear c56b2
      try clear c59
      try clear c59b0
      try clear c61
      try clear c61b0
      try clear c62
      try clear c62b0
      try clear c63
      try clear c63b0
      try clear c63b1
      try clear c64
      try clear c64b0
      try clear c64b1
      try clear p64
      try clear c65
      try clear c65b0
      try clear c67
      try clear hcz31_0
      try clear hcz31_1
      try clear hcz34_0
      try clear hcz34_1
      try clear hcz37_0
      try clear hcz37_1
      try clear hcz45_0
      try clear hcz45_1
      try clear hcz46_0
      try clear hcz46_1
      try clear hcz46_2
      try clear hcz46_3
      try clear hcz46_4
      try clear hcz46_5
      try clear hcz48_0
      try clear hcz48_1
      try clear hcz48_2
      try clear hcz48_3
      try clear hcz48_4
      try clear hcz48_5
      try clear hcz52_0
      try clear hcz52_1
      try clear hcz52_2
      try clear hcz52_3
      try clear hcz52_4
      try clear hcz52_5
      try clear hcz53_0
      try clear hcz53_1
      try clear hfz15_0
      try clear hfz15_1
      try clear hfz19_0
      try clear hfz19_1
      try clear hfz23_0
      try clear hfz23_1
      try clear hfz27_0
      try clear hfz27_1
      try clear hfz31_0
      try clear hfz31_1
      try clear hfz34_0
      try clear hfz34_1
      try clear hfz37_0
      try clear hfz37_1
      try clear hfz45_0
      try clear hfz45_1
      try clear hfz46_0
      try clear hfz46_1
      try clear hfz46_2
      try clear hfz46_3
      try clear hfz46_4
      try clear hfz46_5
      try clear hfz48_0
      try clear hfz48_1
      try clear hfz48_2
      try clear hfz48_3
      try clear hfz48_4
      try clear hfz48_5
      try clear hfz52_0
      try clear hfz52_1
      try clear hfz52_2
      try clear hfz52_3
      try clear hfz52_4
      try clear hfz52_5
      try clear hfz53_0
      try clear hfz53_1
      try clear hx282_0
      try clear hx282_1
      try clear hx282_2
      try clear hx282_3
      try clear hx283_0
      try clear hx283_1
      try clear hx283_2
      try clear hx283_3
      try clear hx284_0
      try clear hx284_1
      try clear hx284_2
      try clear hx284_3
      try clear hx285_0
      try clear hx285_1
      try clear hx285_2
      try clear hx285_3
      try clear hx286_0
      try clear hx286_1
      try clear hx286_2
      try clear hx286_3
      try clear hx287_0
      try clear hx287_1
      try clear hx287_2
      try clear hx287_3
      try clear hx288_0
      try clear hx288_1
      try clear hx288_2
      try clear hx288_3
      try clear hx289_0
      try clear hx289_1
      try clear hx289_2
      try clear hx289_3
      try clear p2
      try clear p28
      try clear p282
      try clear p283
      try clear p284
      try clear p285
      try clear p286
      try clear p287
      try clear p288
      try clear p289
      try clear p6
      try clear p64
      try clear q2
      try clear q28
      try clear q282
      try clear q283
      try clear q284
      try clear q285
      try clear q286
      try clear q287
      try clear q288
      try clear q289
      obtain ⟨kq, HA, HJ42, HO_12, BK267, BK268, BK276, HB⟩ := hcut
      cases kq with
      | zero => exact absurd HA.out (by simp [erratalaw20_BoundsGrow.j3])
      | succ kj42 =>
       have H := HA.out
       clear HA
       simp only [erratalaw20_BoundsGrow.j3] at H
       by_cases c68 : (t271.length : Int) < 2
       ·
        rw [if_pos c68] at H
        have c68b0 : decide ((t271.length : Int) < 2) = true := decide_eq_true c68
        have c68b1 : decide (t271.length < 2) = true := decide_eq_true (by omega)
        clear c68
        obtain rfl := Option.some.inj H
        obtain ⟨Ao69, co69, eo69⟩ := Kd.R_slice HO_12.out
        subst eo69
        go_wp2
        go_ret
        exact ⟨by first | rfl | (simp [errW_none, errW_some] <;> rfl) | (simp [*, errW_none, errW_some] <;> rfl), by repeat (first | (with_reducible first | exact HB.out | apply below_alloc | apply pw_below_drewN | apply below_drew1 | refine below_set ?_ GE267.out | refine below_set ?_ GE268.out | refine below_set ?_ GE276.out) | exact HB.out)⟩
       ·
        rw [if_neg c68] at H
        have c68b0 : decide ((t271.length : Int) < 2) = false := decide_eq_false c68
        have c68b1 : decide (t271.length < 2) = false := decide_eq_false (by omega)
        clear c68
        obtain ⟨ji70, hji70⟩ : ∃ j_ : Int, (wrap64 ((l0_1.length : Int) - 1)) = j_ := ⟨_, rfl⟩
        replace H : (if 0 ≤ (ji70) then (if (ji70) ≤ (l0_1.length : Int) then ((bounds_Analyze.f kj42 l0_0 (l0_1.take ((ji70) : Int).toNat) a1_0 a1_1 a1_2 a1_3 a1_4 a1_5).bind fun bt295 => (if t269 = true then (if bt295.2.2 = 0 then (if 0 ≤ (wrap64 ((t271.length : Int) - 1)) then (if (wrap64 ((t271.length : Int) - 1)) ≤ (t271.length : Int) then ((errataref20_Same.f kj42 bt295.1 (t271.take ((wrap64 ((t271.length : Int) - 1)) : Int).toNat)).bind fun t304 => (some t304)) else (none)) else (none)) else (some false)) else (some false))) else (none)) else (none)) = some true := by first | (rw [hji70] at H; exact H) | (simp only [hji70] at H ⊢; exact H)
        have hji70w : (IntKind.i64.wrap ((l0_1.length : Int) - 1)) = ji70 := (i64_w _).trans hji70
        by_cases c71 : 0 ≤ (ji70)
        ·
         rw [if_pos c71] at H
         have c71b0 := eq_true c71
         have c71b1 : decide (0 ≤ (ji70)) = true := decide_eq_true c71
         clear c71
         by_cases c72 : (ji70) ≤ (l0_1.length : Int)
         ·
          rw [if_pos c72] at H
          have c72b0 := eq_true c72
          have c72b1 : decide ((ji70) ≤ (l0_1.length : Int)) = true := decide_eq_true c72
          clear c72
          obtain ⟨y290, hy290⟩ : ∃ y_ : List (S44), y_ = (l0_1.take ((ji70) : Int).toNat) := ⟨_, rfl⟩
          replace H : ((bounds_Analyze.f kj42 l0_0 y290 a1_0 a1_1 a1_2 a1_3 a1_4 a1_5).bind fun bt295 => (if t269 = true then (if bt295.2.2 = 0 then (if 0 ≤ (wrap64 ((t271.length : Int) - 1)) then (if (wrap64 ((t271.length : Int) - 1)) ≤ (t271.length : Int) then ((errataref20_Same.f kj42 bt295.1 (t271.take ((wrap64 ((t271.length : Int) - 1)) : Int).toNat)).bind fun t304 => (some t304)) else (none)) else (none)) else (some false)) else (some false))) = some true := by first | (rw [hy290]; with_reducible exact H) | (have H2_ := (Option.bind_some _ _).symm.trans H; rw [hy290]; with_reducible exact H2_) | (have H2_ := (Option.bind_some _ _).symm.trans H; with_reducible exact H2_) | with_reducible exact H | (rw [hy290]; exact H) | exact H
          have Ny290 := Aside0.mk hy290
          clear hy290
          replace H := Option.bind_eq_some_iff.mp H
          obtain ⟨⟨t295, t298, t299⟩, A730, H⟩ := H
          replace H : (if t269 = true then (if t299 = 0 then (if 0 ≤ (wrap64 ((t271.length : Int) - 1)) then (if (wrap64 ((t271.length : Int) - 1)) ≤ (t271.length : Int) then ((errataref20_Same.f kj42 t295 (t271.take ((wrap64 ((t271.length : Int) - 1)) : Int).toNat)).bind fun t304 => (some t304)) else (none)) else (none)) else (some false)) else (some false)) = some true := H
          have A73 := Aside0.mk A730
          clear A730
          by_cases c74 : t269 = true
          ·
           subst c74
           have H1 : (if t299 = 0 then (if 0 ≤ (wrap64 ((t271.length : Int) - 1)) then (if (wrap64 ((t271.length : Int) - 1)) ≤ (t271.length : Int) then ((errataref20_Same.f kj42 t295 (t271.take ((wrap64 ((t271.length : Int) - 1)) : Int).toNat)).bind fun t304 => (some t304)) else (none)) else (none)) else (some false)) = some true := by rw [if_pos rfl] at H; exact H
           clear H
           have H := H1
           clear H1
           by_cases c75 : t299 = 0
           ·
            rw [if_pos c75] at H
            have c75b0 : (t299 == 0) = true := beq_iff_eq.mpr c75
            have c75b1 : (t299 != 0) = false := bne_eq_false_iff_eq.mpr c75
            clear c75
            obtain ⟨ji76, hji76⟩ : ∃ j_ : Int, (wrap64 ((t271.length : Int) - 1)) = j_ := ⟨_, rfl⟩
            replace H : (if 0 ≤ (ji76) then (if (ji76) ≤ (t271.length : Int) then ((errataref20_Same.f kj42 t295 (t271.take ((ji76) : Int).toNat)).bind fun t304 => (some t304)) else (none)) else (none)) = some true := by first | (rw [hji76] at H; exact H) | (simp only [hji76] at H ⊢; exact H)
            (try rw [hji76] at A73)
            have hji76w : (IntKind.i64.wrap ((t271.length : Int) - 1)) = ji76 := (i64_w _).trans hji76
            by_cases c77 : 0 ≤ (ji76)
            ·
             rw [if_pos c77] at H
             have c77b0 := eq_true c77
             have c77b1 : decide (0 ≤ (ji76)) = true := decide_eq_true c77
             clear c77
             by_cases c78 : (ji76) ≤ (t271.length : Int)
             ·
              rw [if_pos c78] at H
              have c78b0 := eq_true c78
              have c78b1 : decide ((ji76) ≤ (t271.length : Int)) = true := decide_eq_true c78
              clear c78
              obtain ⟨y300, hy300⟩ : ∃ y_ : List (S37), y_ = (t271.take ((ji76) : Int).toNat) := ⟨_, rfl⟩
              replace H : ((errataref20_Same.f kj42 t295 y300).bind fun t304 => (some t304)) = some true := by first | (rw [hy300]; with_reducible exact H) | (have H2_ := (Option.bind_some _ _).symm.trans H; rw [hy300]; with_reducible exact H2_) | (have H2_ := (Option.bind_some _ _).symm.trans H; with_reducible exact H2_) | with_reducible exact H | (rw [hy300]; exact H) | exact H
              have Ny300 := Aside0.mk hy300
              clear hy300
              replace H := Option.bind_eq_some_iff.mp H
              obtain ⟨t304, A790, H⟩ := H
              replace H : (some t304) = some true := H
              have A79 := Aside0.mk A790
              clear A790
              obtain rfl := Option.some.inj H
              obtain ⟨Ao80, co80, eo80⟩ := Kd.R_slice HO_12.out
              subst eo80
              try go_wp2
              have n0_ := Aside0.mk (Kd.R_drew HO_12.out)
              have n1_ := Aside0.mk (blk_drew BK267.out)
              have n2_ := Aside0.mk (blk_drew BK268.out)
              have n3_ := Aside0.mk (blk_drew BK276.out)
              have n4_ := Aside0.mk (below_drew1 HB.out)
              clear HO_12
              clear BK267
              clear BK268
              clear BK276
              clear HB
              have HO_12 := n0_
              have BK267 := n1_
              have BK268 := n2_
              have BK276 := n3_
              have HB := n4_
              clear n0_ n1_ n2_ n3_ n4_
              have q82 : ((ji70) : Int) ≤ ((l0_1.length : Int) : Int) := of_decide_eq_true (by first | (with_reducible assumption) | assumption)
              obtain ⟨i082, hi082, _, hsz82, _⟩ := info_parts info44
              have hroom82 : l0_1.length ≤ c0_1 := HC0_1.out
              have hC82 : Kd.C k44 _ A0_1 l0_1.length l0_1 := HR0_1.out
              have hcut82 := cut_to (P := Try.prog) 23 44 .i64 Try.underlying23 hi082 A0_1 l0_1.length c0_1 (ji70) (of_decide_eq_true (by first | (with_reducible assumption) | assumption)) q82 hroom82
              have hr82 := Kd.C_take (m := ((ji70) : Int).toNat) hC82 (by omega)
              have hy82 : y290.length = ((ji70) : Int).toNat := (by rw [Ny290.out, List.length_take]; omega)
              rw [← Ny290.out] at hr82
              rw [← hy82] at hcut82
              have HR293 := Aside0.mk hr82
              have HC293 := Aside0.mk (show y290.length ≤ c0_1 from by omega)
              clear hr82 hC82 hroom82 hi082 hsz82
              have KY82 := Aside0.mk hy82
              clear hy82
              replace q82 := eq_true q82
              refine start_ (n := 12) (S := fun w' => w'.cell? ⟨gb267, 0, none⟩ = some (.slice A0_0 l0_0.length c0_0) ∧ w'.cell? ⟨gb267, 1, none⟩ = some (.slice A0_1 l0_1.length c0_1)) (ds := []) #[O,O,O,O,O,O,O,O,O,O,O,O] (by kernel_rfl) rfl rfl ⟨(blk_cell BK267.out 0).trans rfl, (blk_cell BK267.out 1).trans rfl⟩ (fun hHeld => ?_); refine with_tabW erratalaw20_BoundsGrow.tab22 erratalaw20_BoundsGrow.bits22 (fun HT_ HW_ => ?_)
              generalize wc.drew = w81 at HO_12 BK267 BK268 BK276 HB HR293 hHeld ⊢
              refine pure_ (i := 0) (N := some 153) (v := ?_) (a' := ?_) #[J,O,O,O,O,O,O,O,O,O,O,O] rfl rfl (any_of HT_.out (by kernel_rfl)) (fun _ _ _ h => h) (Or.inl ⟨by rfl, ?_⟩) ?_ ?_
              rotate_left
              ·
               intro w'
               go_simp
               with_reducible rfl
              rotate_left
              ·
               simp only [Act.put, List.setIfInBounds_toArray, List.set_cons_zero, List.set_cons_succ, i64_w, i32_w]
               rfl
              refine pure_ (i := 2) (N := some 155) (v := ?_) (a' := ?_) #[J,O,J,O,O,O,O,O,O,O,O,O] rfl rfl (any_of HT_.out (by kernel_rfl)) (fun _ _ _ h => h) (Or.inl ⟨by rfl, ?_⟩) ?_ ?_
              rotate_left
              ·
               intro w'
               go_simp
               with_reducible rfl
              rotate_left
              ·
               simp only [Act.put, List.setIfInBounds_toArray, List.set_cons_zero, List.set_cons_succ, i64_w, i32_w]
               rfl
              refine pure_ (i := 4) (N := some 157) (v := ?_) (a' := ?_) #[J,O,J,O,J,O,O,O,O,O,O,O] rfl rfl (any_of HT_.out (by kernel_rfl)) (fun _ _ _ h => h) (Or.inl ⟨by rfl, ?_⟩) ?_ ?_
              rotate_left
              ·
               intro w'
               go_simp
               with_reducible rfl
              rotate_left
              ·
               simp only [Act.put, List.setIfInBounds_toArray, List.set_cons_zero, List.set_cons_succ, i64_w, i32_w]
               rfl
              refine take_ (i := 1) (N := some 154) (v := ?_) (a' := ?_) #[J,J,J,O,J,O,O,O,O,O,O,O] rfl rfl (take_ofW HT_.out HW_.out (by kernel_rfl)) (fun _ _ _ h => h) (Or.inl ⟨by rfl, ?_⟩) hHeld ?_ ?_
              rotate_left
              ·
               rintro w' ⟨s0, s1⟩
               go_simp
               with_reducible rfl
              rotate_left
              ·
               simp only [Act.put, List.setIfInBounds_toArray, List.set_cons_zero, List.set_cons_succ, i64_w, i32_w]
               rfl
              refine take_ (i := 3) (N := some 156) (v := ?_) (a' := ?_) #[J,J,J,J,J,O,O,O,O,O,O,O] rfl rfl (take_ofW HT_.out HW_.out (by kernel_rfl)) (fun _ _ _ h => h) (Or.inl ⟨by rfl, ?_⟩) hHeld ?_ ?_
              rotate_left
              ·
               rintro w' ⟨s0, s1⟩
               go_simp
               with_reducible rfl
              rotate_left
              ·
               simp only [Act.put, List.setIfInBounds_toArray, List.set_cons_zero, List.set_cons_succ, i64_w, i32_w]
               rfl
              refine take_ (i := 5) (N := some 158) (v := ?_) (a' := ?_) #[J,J,J,J,J,J,O,O,O,O,O,O] rfl rfl (take_ofW HT_.out HW_.out (by kernel_rfl)) (fun _ _ _ h => h) (Or.inl ⟨by rfl, ?_⟩) hHeld ?_ ?_
              rotate_left
              ·
               rintro w' ⟨s0, s1⟩
               go_simp
               with_reducible rfl
              rotate_left
              ·
               simp only [Act.put, List.setIfInBounds_toArray, List.set_cons_zero, List.set_cons_succ, i64_w, i32_w]
               rfl
              refine pure_ (i := 6) (N := some 159) (v := ?_) (a' := ?_) #[J,J,J,J,J,J,J,O,O,O,O,O] rfl rfl (any_of HT_.out (by kernel_rfl)) (fun _ _ _ h => h) (Or.inl ⟨by rfl, ?_⟩) ?_ ?_
              rotate_left
              ·
               intro w'
               go_simp
               with_reducible rfl
              rotate_left
              ·
               simp only [Act.put, List.setIfInBounds_toArray, List.set_cons_zero, List.set_cons_succ, i64_w, i32_w]
               rfl
              refine pure_ (i := 7) (N := some 160) (v := ?_) (a' := ?_) #[J,J,J,J,J,J,J,J,O,O,O,O] rfl rfl (any_of HT_.out (by kernel_rfl)) (fun _ _ _ h => h) (Or.inl ⟨by rfl, ?_⟩) ?_ ?_
              rotate_left
              ·
               intro w'
               go_simp
               with_reducible rfl
              rotate_left
              ·
               simp only [Act.put, List.setIfInBounds_toArray, List.set_cons_zero, List.set_cons_succ, i64_w, i32_w]
               rfl
              refine pure_ (i := 8) (N := some 161) (v := ?_) (a' := ?_) #[J,J,J,J,J,J,J,J,J,O,O,O] rfl rfl (any_of HT_.out (by kernel_rfl)) (fun _ _ _ h => h) (Or.inl ⟨by rfl, ?_⟩) ?_ ?_
              rotate_left
              ·
               intro w'
               go_simp
               with_reducible rfl
              rotate_left
              ·
               simp only [Act.put, List.setIfInBounds_toArray, List.set_cons_zero, List.set_cons_succ, i64_w, i32_w]
               rfl
              refine pure_ (i := 9) (N := some 162) (v := ?_) (a' := ?_) #[J,J,J,J,J,J,J,J,J,J,O,O] rfl rfl (any_of HT_.out (by kernel_rfl)) (fun _ _ _ h => h) (Or.inl ⟨by rfl, ?_⟩) ?_ ?_
              rotate_left
              ·
               intro w'
               go_simp
               with_reducible rfl
              rotate_left
              ·
               simp only [Act.put, List.setIfInBounds_toArray, List.set_cons_zero, List.set_cons_succ, i64_w, i32_w]
               rfl
              refine one_ (i := 10) (N := some 20) #[J,J,J,J,J,J,J,J,J,J,J,O] rfl rfl (one_of HT_.out (by kernel_rfl)) (by decide) (fun K hK => ?_)
              refine box_step ?hg (N := 20) ?hd (cs := #[.slice none 0 0, .slice none 0 0]) (t := 25) ?hr ?_; (case hd => rfl); (case hg => rfl); (case hr => first | (go_simp; done) | (go_simp; rfl))
              intro gb294 hg w83 hbox hb
              have n0_ := Aside0.mk (Kd.R_below (by (with_reducible repeat (first | apply Kd.R_alloc | apply Kd.R_drewN | apply Kd.R_drew)); exact HO_12.out) hb)
              have n1_ := Aside0.mk (blk_keepA BK267.out hb)
              have n2_ := Aside0.mk (blk_keepA BK268.out hb)
              have n3_ := Aside0.mk (blk_keepA BK276.out hb)
              have n4_ := Aside0.mk (below_stepA hb)
              have n5_ := Aside0.mk (hbox)
              have n6_ := Aside0.mk ((by rw [hg]; exact below_sizeA : w.heap.size ≤ gb294))
              have n7_ := Aside0.mk ((by rw [hg]; exact below_sizeA : w.heap.size ≤ gb294))
              have n8_ := Aside0.mk ((by rw [hg]; exact Nat.ne_of_lt (blk_ltKA BK267.out) : gb267 ≠ gb294))
              have n9_ := Aside0.mk ((by rw [hg]; exact Nat.ne_of_gt (blk_ltKA BK267.out) : gb294 ≠ gb267))
              have n10_ := Aside0.mk ((by rw [hg]; exact Nat.ne_of_lt (blk_ltKA BK268.out) : gb268 ≠ gb294))
              have n11_ := Aside0.mk ((by rw [hg]; exact Nat.ne_of_gt (blk_ltKA BK268.out) : gb294 ≠ gb268))
              have n12_ := Aside0.mk ((by rw [hg]; exact Nat.ne_of_lt (blk_ltKA BK276.out) : gb276 ≠ gb294))
              have n13_ := Aside0.mk ((by rw [hg]; exact Nat.ne_of_gt (blk_ltKA BK276.out) : gb294 ≠ gb276))
              clear HO_12
              clear BK267
              clear BK268
              clear BK276
              clear HB
              have HO_12 := n0_
              have BK267 := n1_
              have BK268 := n2_
              have BK276 := n3_
              have HB := n4_
              have BK294 := n5_
              have GW294 := n6_
              have GE294 := n7_
              have NB267_294 := n8_
              have NB294_267 := n9_
              have NB268_294 := n10_
              have NB294_268 := n11_
              have NB276_294 := n12_
              have NB294_276 := n13_
              clear n0_ n1_ n2_ n3_ n4_ n5_ n6_ n7_ n8_ n9_ n10_ n11_ n12_ n13_
              clear hb hbox hg
              refine hK.out _ _ ⟨(blk_cell BK267.out 0).trans rfl, (blk_cell BK267.out 1).trans rfl⟩ (fun hHeld => ?_)
              clear hK K
              refine norm_ (a' := ?_) ?_ ?_
              rotate_left
              ·
               show Act.put _ (some 20) _ = _
               simp only [Act.put, List.setIfInBounds_toArray, List.set_cons_zero, List.set_cons_succ, i64_w, i32_w]
               rfl
              refine one_ (i := 11) (N := none) #[J,J,J,J,J,J,J,J,J,J,J,J] rfl rfl (one_of HT_.out (by kernel_rfl)) (by decide) (fun K hK => ?_)
              have hs84 : w83.cell? ⟨gb294, 0, none⟩ = some (.slice none 0 0) := (blk_cell BK294.out 0).trans rfl
              have hfs84 := blk_frozen BK294.out 0
              have hns84_0 := NB267_294.out
              have hns84_1 := NB268_294.out
              have hns84_2 := NB276_294.out
              have hms84_0 := NB294_267.out
              have hms84_1 := NB294_268.out
              have hms84_2 := NB294_276.out
              have hs85 : w83.cell? ⟨gb294, 1, none⟩ = some (.slice none 0 0) := (blk_cell BK294.out 1).trans rfl
              have hfs85 := blk_frozen BK294.out 1
              have hns85_0 := NB267_294.out
              have hns85_1 := NB268_294.out
              have hns85_2 := NB276_294.out
              have hms85_0 := NB294_267.out
              have hms85_1 := NB294_268.out
              have hms85_2 := NB294_276.out
              refine skip_ (w1 := ?_) (by rfl) rfl ?_ ?_
              rotate_left
              ·
               go_simp
               rfl
              refine hK.out _ _ ⟨((cell_far (p := ⟨gb294, _, none⟩) NB267_294.out _).trans (((cell_far (p := ⟨gb294, _, none⟩) NB267_294.out _).trans (hHeld.1)))), ((cell_far (p := ⟨gb294, _, none⟩) NB267_294.out _).trans (((cell_far (p := ⟨gb294, _, none⟩) NB267_294.out _).trans (hHeld.2))))⟩ (fun hHeld => ?_)
              clear hK K
              refine done_ (done_of HT_.out (by kernel_rfl)) ?_
              have hnb86 := NB294_267.out
              have hnc86 := NB267_294.out
              have hnb87 := NB294_268.out
              have hnc87 := NB268_294.out
              have hnb88 := NB294_276.out
              have hnc88 := NB276_294.out
              obtain ⟨hcz89_0, hcz89_1, hfz89_0, hfz89_1⟩ := blk2 BK294.out
              have hnb90 := NB268_267.out
              have hnc90 := NB267_268.out
              have hnb91 := NB268_276.out
              have hnc91 := NB276_268.out
              obtain ⟨hcz92_0, hcz92_1, hcz92_2, hcz92_3, hcz92_4, hcz92_5, hfz92_0, hfz92_1, hfz92_2, hfz92_3, hfz92_4, hfz92_5⟩ := blk6 BK268.out
              try go_wp2_with (first | ((with_reducible refine gate_callee (f := 9) rfl ?_); refine goesL_ (some 166) rfl rfl Try.func9 (by kernel_rfl) rfl #[.agg #[.slice A0_0 l0_0.length c0_0, .slice A0_1 y290.length c0_1], .agg #[.int .i64 a1_0, .int .i64 a1_1, .int .i64 a1_2, .int .i64 a1_3, .int .i64 a1_4, .int .i64 a1_5]] rfl (by (try simp only [List.map_toArray, List.map_cons, List.map_nil]); first | done | rfl | (simp only [List.length_drop, List.length_take]; rfl)) ?_; (with_reducible refine (bounds_Analyze.calls kj42 _ _ l0_0 _ _ y290 a1_0 a1_1 a1_2 a1_3 a1_4 a1_5 t295 t298 t299 _ ?side1 ?side2 ?side3 ?side4 A73.out).mono ?_); (case side1 => exact Kd.C_below HR0_0.out (by repeat (first | (with_reducible first | exact HB.out | apply below_alloc | apply pw_below_drewN | apply below_drew1 | refine below_set ?_ GE267.out | refine below_set ?_ GE268.out | refine below_set ?_ GE276.out | refine below_set ?_ GE294.out) | exact HB.out))); (case side2 => exact HC0_0.out); (case side3 => exact Kd.C_below HR293.out (by repeat (first | (with_reducible first | exact HB.out | apply below_alloc | apply pw_below_drewN | apply below_drew1 | refine below_set ?_ GE267.out | refine below_set ?_ GE268.out | refine below_set ?_ GE276.out | refine below_set ?_ GE294.out) | exact HB.out))); (case side4 => exact HC293.out); rintro e w93 ⟨v296, rfl, ho0, hb⟩; refine ⟨_, rfl, ?_⟩; have n0_ := Aside0.mk (Kd.R_elder' (by (with_reducible repeat (first | apply Kd.R_alloc | apply Kd.R_drewN | apply Kd.R_drew)); exact (Kd.R_mono (Kd.R_far (p := ⟨gb294, 1, none⟩) (Kd.R_far (p := ⟨gb294, 0, none⟩) (Kd.R_types HO_12.out BK294.out (by decide)) (fun _ hk => hk.2) (.slice A0_0 l0_0.length c0_0)) (fun _ hk => hk.2) (.slice A0_1 y290.length c0_1)) (fun _ h_ => h_.1))) (Kd.R_base ho0) hb); have n1_ := Aside0.mk (Kd.R_lower (Kd.R_new' ho0 (Kd.R_lt (by (with_reducible repeat (first | apply Kd.R_alloc | apply Kd.R_drewN | apply Kd.R_drew)); exact (Kd.R_mono (Kd.R_far (p := ⟨gb294, 1, none⟩) (Kd.R_far (p := ⟨gb294, 0, none⟩) (Kd.R_types HO_12.out BK294.out (by decide)) (fun _ hk => hk.2) (.slice A0_0 l0_0.length c0_0)) (fun _ hk => hk.2) (.slice A0_1 y290.length c0_1)) (fun _ h_ => h_.1))))) below_sizeA); have n2_ := Aside0.mk (blk_keep BK267.out (fun h_ => by (with_reducible repeat (first | refine blk_drewN ?_ _ | refine blk_drew ?_ | refine blk_alloc ?_ _)); refine blk_far ?_ NB267_294.out _; (with_reducible repeat (first | refine blk_drewN ?_ _ | refine blk_drew ?_ | refine blk_alloc ?_ _)); refine blk_far ?_ NB267_294.out _; (with_reducible repeat (first | refine blk_drewN ?_ _ | refine blk_drew ?_ | refine blk_alloc ?_ _)); exact h_) hb); have n3_ := Aside0.mk (blk_keep BK268.out (fun h_ => by (with_reducible repeat (first | refine blk_drewN ?_ _ | refine blk_drew ?_ | refine blk_alloc ?_ _)); refine blk_far ?_ NB268_294.out _; (with_reducible repeat (first | refine blk_drewN ?_ _ | refine blk_drew ?_ | refine blk_alloc ?_ _)); refine blk_far ?_ NB268_294.out _; (with_reducible repeat (first | refine blk_drewN ?_ _ | refine blk_drew ?_ | refine blk_alloc ?_ _)); exact h_) hb); have n4_ := Aside0.mk (blk_keep BK276.out (fun h_ => by (with_reducible repeat (first | refine blk_drewN ?_ _ | refine blk_drew ?_ | refine blk_alloc ?_ _)); refine blk_far ?_ NB276_294.out _; (with_reducible repeat (first | refine blk_drewN ?_ _ | refine blk_drew ?_ | refine blk_alloc ?_ _)); refine blk_far ?_ NB276_294.out _; (with_reducible repeat (first | refine blk_drewN ?_ _ | refine blk_drew ?_ | refine blk_alloc ?_ _)); exact h_) hb); have n5_ := Aside0.mk (blk_below (g := gb294) (o := .cells #[.slice A0_0 l0_0.length c0_0, .slice A0_1 y290.length c0_1] 25 (0, 0)) (by (with_reducible repeat (first | refine blk_drewN ?_ _ | refine blk_drew ?_ | refine blk_alloc ?_ _)); refine blk_put (cs := #[.slice A0_0 l0_0.length c0_0, .slice none 0 0]) ?_ 1 _ rfl; (with_reducible repeat (first | refine blk_drewN ?_ _ | refine blk_drew ?_ | refine blk_alloc ?_ _)); refine blk_put (cs := #[.slice none 0 0, .slice none 0 0]) ?_ 0 _ rfl; (with_reducible repeat (first | refine blk_drewN ?_ _ | refine blk_drew ?_ | refine blk_alloc ?_ _)); exact BK294.out) hb); have n6_ := Aside0.mk (below_stepA hb); clear HO_12; clear BK267; clear BK268; clear BK276; clear BK294; clear HB; have HO_12 := n0_; have HO297 := n1_; have BK267 := n2_; have BK268 := n3_; have BK276 := n4_; have BK294 := n5_; have HB := n6_; clear n0_ n1_ n2_ n3_ n4_ n5_ n6_; (try clear hb); (try clear hb2); (try clear hk); (try clear hi); (try clear ho0); have q94 : ((ji76) : Int) ≤ ((t271.length : Int) : Int) := of_decide_eq_true (by first | (with_reducible assumption) | assumption); obtain ⟨i094, hi094, _, hsz94, _⟩ := info_parts info37; have hroom94 : t271.length ≤ co80 := (Kd.R_reads' HO_12.out).2.1; have hC94 : Kd.C k37 _ Ao80 t271.length t271 := (Kd.R_reads' HO_12.out).2.2; have hcut94 := cut_to (P := Try.prog) 30 37 .i64 Try.underlying30 hi094 Ao80 t271.length co80 (ji76) (of_decide_eq_true (by first | (with_reducible assumption) | assumption)) q94 hroom94; have hr94 := Kd.C_take (m := ((ji76) : Int).toNat) hC94 (by omega); have hy94 : y300.length = ((ji76) : Int).toNat := (by rw [Ny300.out, List.length_take]; omega); rw [← Ny300.out] at hr94; rw [← hy94] at hcut94; have HR303 := Aside0.mk hr94; have HC303 := Aside0.mk (show y300.length ≤ co80 from by omega); clear hr94 hC94 hroom94 hi094 hsz94; have KY94 := Aside0.mk hy94; clear hy94; have KL94 := Aside0.mk (show ((ji76) : Int).toNat ≤ t271.length from by omega); replace q94 := eq_true q94; obtain ⟨Ao95, co95, eo95⟩ := Kd.R_slice HO297.out; subst eo95) | (go_at_call 11; (with_reducible refine (errataref20_Same.calls kj42 _ _ t295 _ _ y300 true _ ?side1 ?side2 ?side3 ?side4 A79.out).mono ?_); (case side1 => repeat (first | exact (Kd.R_reads' HO297.out).2.2 | (with_reducible refine Kd.C_alloc ?_ _) | (with_reducible refine Kd.C_drewN ?_ _) | (with_reducible refine Kd.C_drew ?_))); (case side2 => exact (Kd.R_reads' HO297.out).2.1); (case side3 => repeat (first | exact (by repeat (first | (with_reducible exact HR303.out) | (with_reducible refine Kd.C_alloc ?_ _) | (with_reducible refine Kd.C_drewN ?_ _) | (with_reducible refine Kd.C_drew ?_) | exact HR303.out)) | (with_reducible refine Kd.C_alloc ?_ _) | (with_reducible refine Kd.C_drewN ?_ _) | (with_reducible refine Kd.C_drew ?_))); (case side4 => exact HC303.out); rintro e w' ⟨rfl, ⟨nd, rfl⟩⟩))
              go_ret
              exact ⟨by first | rfl | (simp [errW_none, errW_some] <;> rfl) | (simp only [← hji70, ← hji76]; first | rfl | (simp [errW_none, errW_some] <;> rfl)) | (simp [*, errW_none, errW_some] <;> rfl), by repeat (first | (with_reducible first | exact HB.out | apply below_alloc | apply pw_below_drewN | apply below_drew1 | refine below_set ?_ GE267.out | refine below_set ?_ GE268.out | refine below_set ?_ GE276.out | refine below_set ?_ GE294.out) | exact HB.out)⟩
             ·
              rw [if_neg c78] at H
              exact absurd H (by simp)
            ·
             rw [if_neg c77] at H
             exact absurd H (by simp)
           ·
            rw [if_neg c75] at H
            have c75b0 : (t299 == 0) = false := beq_eq_false_iff_ne.mpr c75
            have c75b1 : (t299 != 0) = true := bne_iff_ne.mpr c75
            cases H
          ·
           replace c74 := Bool.eq_false_iff.mpr c74
           subst c74
           have H1 : (some false) = some true := by rw [if_neg (show ¬ (false = true) by decide)] at H; exact H
           clear H
           have H := H1
           clear H1
           cases H
         ·
          rw [if_neg c72] at H
          exact absurd H (by simp)
        ·
         rw [if_neg c71] at H
         exact absurd H (by simp)
    ·
     rw [if_neg c41] at H
     have c41b0 : (t275 == 0) = false := beq_eq_false_iff_ne.mpr c41
     have c41b1 : (t275 != 0) = true := bne_iff_ne.mpr c41
     obtain rfl := Option.some.inj H
     have hnb96 := NB267_268.out
     have hnc96 := NB268_267.out
     obtain ⟨hcz97_0, hcz97_1, hfz97_0, hfz97_1⟩ := blk2 BK267.out
     obtain ⟨hcz98_0, hcz98_1, hcz98_2, hcz98_3, hcz98_4, hcz98_5, hfz98_0, hfz98_1, hfz98_2, hfz98_3, hfz98_4, hfz98_5⟩ := blk6 BK268.out
     go_wp2_with (first | ((with_reducible refine gate_callee (f := 9) rfl ?_); refine goesL_ (some 56) rfl rfl Try.func9 (by kernel_rfl) rfl #[.agg #[.slice A0_0 l0_0.length c0_0, .slice A0_1 l0_1.length c0_1], .agg #[.int .i64 a1_0, .int .i64 a1_1, .int .i64 a1_2, .int .i64 a1_3, .int .i64 a1_4, .int .i64 a1_5]] rfl (by (try simp only [List.map_toArray, List.map_cons, List.map_nil]); first | done | rfl | (simp only [List.length_drop, List.length_take]; rfl)) ?_; (with_reducible refine (bounds_Analyze.calls kj6 _ _ l0_0 _ _ l0_1 a1_0 a1_1 a1_2 a1_3 a1_4 a1_5 t271 t274 t275 _ ?side1 ?side2 ?side3 ?side4 A40.out).mono ?_); (case side1 => exact c_belowA HR0_0.out); (case side2 => exact HC0_0.out); (case side3 => exact c_belowA HR0_1.out); (case side4 => exact HC0_1.out); rintro e w99 ⟨v272, rfl, ho0, hb⟩; refine ⟨_, rfl, ?_⟩; have n0_ := Aside0.mk (Kd.R_lower ho0 below_sizeA); have n1_ := Aside0.mk (blk_keepA BK267.out hb); have n2_ := Aside0.mk (blk_keepA BK268.out hb); have n3_ := Aside0.mk (below_stepA hb); clear BK267; clear BK268; clear HB; have HO273 := n0_; have BK267 := n1_; have BK268 := n2_; have HB := n3_; clear n0_ n1_ n2_ n3_; (try clear hb); (try clear hb2); (try clear hk); (try clear hi); (try clear ho0)))
     go_ret
     exact ⟨by first | rfl | (simp [errW_none, errW_some] <;> rfl) | (simp [*, errW_none, errW_some] <;> rfl), by repeat (first | (with_reducible first | exact HB.out | apply below_alloc | apply pw_below_drewN | apply below_drew1 | refine below_set ?_ GE267.out | refine below_set ?_ GE268.out) | exact HB.out)⟩

end Go.Proofs.Yteoljddobfnfiaa.PB
end
section
namespace Go.Proofs.Yteoljddobfnfiaa.Pure
open Go.RowKit Go.Proofs.YteoljddobfnfiaaW.PrintWords Go.Proofs.YteoljddobfnfiaaW.PrintLast Go.Proofs.YteoljddobfnfiaaW.PrintMore Go.Proofs.Yteoljddobfnfiaa.PB
set_option linter.unusedVariables false
set_option linter.unusedSimpArgs false

theorem Same_l0 (l : List S37) (hl : l.length ≤ 9223372036854775807) : ∀ d i : Nat, i + d = l.length → Ev (fun k => errataref20_Same.l0 k l l (i : Int)) true
  | 0, i, hi => by
    refine Ev.step (f := fun _ => some true) (fun k => ?_) (Ev.now _)
    simp only [errataref20_Same.l0]
    rw [if_neg (by omega)]
  | d + 1, i, hi => by
    refine Ev.step (f := fun k => errataref20_Same.l0 k l l ((i + 1 : Nat) : Int)) (fun k => ?_) (Same_l0 l hl d (i + 1) (by omega))
    simp only [errataref20_Same.l0]
    rw [if_pos (by omega), if_pos (by omega), if_pos (by omega), if_neg (by simp), cast_succ, wrap_id (n := ((i + 1 : Nat) : Int)) (by omega) (by omega)]
theorem Same_ev (l : List S37) (hl : l.length ≤ 9223372036854775807) : Ev (fun k => errataref20_Same.f k l l) true := by
  refine Ev.congr (fun k => ?_) (Same_l0 l hl l.length 0 (by omega))
  unfold errataref20_Same.f
  rw [if_pos rfl]
  rfl
def Le37 (a b : S37) : Prop := a.f0 = b.f0 ∧ a.f1 = b.f1 ∧ a.f2 ≤ b.f2 ∧ a.f3 ≤ b.f3
theorem fold_same {g h : Int → Int} : ∀ (l : List Int) (s : Int), (∀ x ∈ l, g x = h x) → l.foldl (fun s x => mx s (g x)) s = l.foldl (fun s x => mx s (h x)) s
  | [], _, _ => rfl
  | x :: l, s, hx => by
    rw [List.foldl_cons, List.foldl_cons, hx x List.mem_cons_self]
    exact fold_same l _ (fun y hy => hx y (List.mem_cons_of_mem _ hy))
theorem mn_mono {a b c d : Int} (h1 : a ≤ c) (h2 : b ≤ d) : mn a b ≤ mn c d := by unfold mn; split <;> split <;> omega
theorem mul_mono {a b c d : Int} (ha : 0 ≤ a) (hb : 0 ≤ b) (h1 : a ≤ c) (h2 : b ≤ d) : a * b ≤ c * d := Int.mul_le_mul h1 h2 hb (by omega)
theorem stOf_mono {i c5 d5 o : Int} {b1 b2 : List S37} (h1 : pre i b1) (hc : 0 ≤ c5) (hcd : c5 ≤ d5) (ho : 0 ≤ o) : ∀ (l : List Int) (s t : Int), okIn i l = true → (∀ x, 0 ≤ x → x < i → Le37 (rd_T37 b1 x) (rd_T37 b2 x)) → s ≤ t → stOf b1 c5 o l s ≤ stOf b2 d5 o l t
  | [], _, _, _, _, h => h
  | x :: l, s, t, hl, hx, h => by
    have hm := okIn_mem hl List.mem_cons_self
    have hk := pre_at h1 hm.1 hm.2
    obtain ⟨e0, e1, e2, e3⟩ := hx x hm.1 hm.2
    refine stOf_mono h1 hc hcd ho l _ _ (by rw [okIn_cons] at hl; exact (Bool.and_eq_true_iff.1 hl).2) hx ?_
    refine mn_mono ?_ (Int.le_refl _)
    have := mn_mono (mul_mono (show 0 ≤ (rd_T37 b1 x).f2 by have := hk.2.2.1; omega) (show 0 ≤ c5 + (rd_T37 b1 x).f1 + o by have := hk.2.1; omega) e2 (show c5 + (rd_T37 b1 x).f1 + o ≤ d5 + (rd_T37 b2 x).f1 + o by omega)) (Int.le_refl 1099511627776)
    omega
theorem rateOf_mono {i c0 c4 d0 d4 : Int} {b1 b2 : List S37} {n : S44} (h1 : pre i b1) (hn : okNode i n = true) (hb : bdd n = true) (h0 : 0 ≤ c0 ∧ c0 ≤ d0) (h4 : 0 ≤ c4 ∧ c4 ≤ d4) (hx : ∀ x, 0 ≤ x → x < i → Le37 (rd_T37 b1 x) (rd_T37 b2 x)) :
    rateOf b1 c0 c4 n ≤ rateOf b2 d0 d4 n := by
  obtain ⟨m1, m2, m3⟩ := node_ins hn
  unfold rateOf
  by_cases e0 : n.f0 = 0
  · rw [if_pos e0, if_pos e0]
    exact mul_mono h0.1 h4.1 h0.2 h4.2
  rw [if_neg e0, if_neg e0]
  have l0 := ins1 m2 e0
  have a0 := in_at m3 l0
  have q0 := hx _ a0.1 a0.2
  have p0 := (pre_at h1 a0.1 a0.2).2.2.1
  rw [show ((0 : Nat) : Int) = 0 from rfl] at a0 q0 p0
  by_cases e3 : n.f0 = 3
  · rw [if_pos e3, if_pos e3]
    have l1 := ins2 m2 (by omega)
    have a1 := in_at m3 l1
    have q1 := hx _ a1.1 a1.2
    rw [show ((1 : Nat) : Int) = 1 from rfl] at q1
    exact mn_mono (Int.add_le_add q0.2.2.1 q1.2.2.1) (Int.le_refl _)
  rw [if_neg e3, if_neg e3]
  by_cases e4 : n.f0 = 4 ∨ n.f0 = 5
  · rw [if_pos e4, if_pos e4]
    have hs := bdd_size n hb (by omega)
    exact mn_mono (mul_mono (by omega) (by omega) q0.2.2.1 (Int.le_refl _)) (Int.le_refl _)
  rw [if_neg e4, if_neg e4]
  by_cases e6 : n.f0 = 6
  · rw [if_pos e6, if_pos e6]
    have l1 := ins2 m2 (by omega)
    have a1 := in_at m3 l1
    have q1 := hx _ a1.1 a1.2
    have p1 := (pre_at h1 a1.1 a1.2).2.2.1
    rw [show ((1 : Nat) : Int) = 1 from rfl] at q1 p1
    have hj := bdd_join n hb e6
    have g0 := mul_nn (show 0 ≤ (rd_T37 b1 (rd n.f1 0)).f2 by omega) (show 0 ≤ (rd_T37 b1 (rd n.f1 1)).f2 by omega)
    exact mn_mono (mul_mono (le_mn g0 (by omega)) (by omega) (mn_mono (mul_mono (by omega) (by omega) q0.2.2.1 q1.2.2.1) (Int.le_refl _)) (Int.le_refl _)) (Int.le_refl _)
  rw [if_neg e6, if_neg e6]
  exact q0.2.2.1
theorem boundOf_mono {i c0 c4 c5 d0 d4 d5 : Int} {b1 b2 : List S37} {n : S44} (h1 : pre i b1) (hn : okNode i n = true) (hb : bdd n = true) (h0 : 0 ≤ c0 ∧ c0 ≤ d0) (h4 : 0 ≤ c4 ∧ c4 ≤ d4) (h5 : 0 ≤ c5 ∧ c5 ≤ d5)
    (hx : ∀ x, 0 ≤ x → x < i → Le37 (rd_T37 b1 x) (rd_T37 b2 x)) : Le37 (boundOf b1 c0 c4 c5 n) (boundOf b2 d0 d4 d5 n) := by
  obtain ⟨m1, m2, m3⟩ := node_ins hn
  have hm : ∀ x ∈ n.f1, Le37 (rd_T37 b1 x) (rd_T37 b2 x) := fun x h => hx x (okIn_mem m3 h).1 (okIn_mem m3 h).2
  have w := own_range n
  refine ⟨?_, ?_, rateOf_mono h1 hn hb h0 h4 hx, ?_⟩
  · show backOf b1 n.f1 0 + ownB n = backOf b2 n.f1 0 + ownB n
    unfold backOf
    rw [fold_same n.f1 0 (fun x h => (hm x h).1)]
  · show foreOf b1 n.f1 0 + ownF n = foreOf b2 n.f1 0 + ownF n
    unfold foreOf
    rw [fold_same n.f1 0 (fun x h => (hm x h).2.1)]
  · show (if 4 ≤ n.f0 then stOf b1 c5 (ownB n) n.f1 0 else 0) ≤ (if 4 ≤ n.f0 then stOf b2 d5 (ownB n) n.f1 0 else 0)
    split
    · exact stOf_mono h1 h5.1 h5.2 w.1 n.f1 0 0 m3 hx (Int.le_refl _)
    · exact Int.le_refl _
theorem acc_mono {l : List S44} {c0 c1 c2 c3 c4 c5 d0 d4 d5 : Int} {bs b2 : List S37} (A : Acc l c0 c1 c2 c3 c4 c5 bs) (B : Acc l d0 c1 c2 c3 d4 d5 b2) (h0 : c0 ≤ d0) (h4 : c4 ≤ d4) (h5 : c5 ≤ d5) :
    ∀ n j : Nat, j < n → j < l.length → Le37 (rd_T37 bs (j : Int)) (rd_T37 b2 (j : Int))
  | 0, j, hj, _ => absurd hj (Nat.not_lt_zero j)
  | n + 1, j, hj, hl => by
    obtain ⟨k1, k2, k3, k4, k5, k6⟩ := A.node j hl
    obtain ⟨m1, m2, m3, m4, m5, m6⟩ := B.node j hl
    have hr := A.right
    unfold rightC at hr
    have ih : ∀ x, 0 ≤ x → x < (j : Int) → Le37 (rd_T37 bs x) (rd_T37 b2 x) := by
      intro x hx0 hx1
      have e : ((x.toNat : Nat) : Int) = x := Int.toNat_of_nonneg hx0
      rw [← e]
      exact acc_mono A B h0 h4 h5 n x.toNat (by omega) (by omega)
    have hp : pre (j : Int) (bs.take j) := by
      refine ⟨by rw [List.length_take, A.len]; omega, fun b hb => ?_⟩
      obtain ⟨q, hq⟩ := List.getElem?_of_mem hb
      rw [List.getElem?_take] at hq
      split at hq
      · rename_i hqj
        have hql : q < bs.length := by rw [A.len]; omega
        rw [List.getElem?_eq_getElem hql] at hq
        obtain ⟨_, _, _, n4, _, _⟩ := A.node q (by omega)
        rw [rd37_at hql, Option.some.inj hq] at n4
        unfold okB at n4 ⊢
        omega
      · cases hq
    have e1 : boundOf (bs.take j) c0 c4 c5 l[j] = boundOf bs c0 c4 c5 l[j] := boundOf_congr k1 (fun x h0 h1 => rd37_take (by rw [A.len]; omega) h0 h1)
    rw [k3, m3, ← e1]
    refine boundOf_mono hp k1 k2 (by omega) (by omega) (by omega) (fun x hx0 hx1 => ?_)
    rw [rd37_take (by rw [A.len]; omega) hx0 hx1]
    exact ih x hx0 hx1
theorem ana_take {c0 c4 c5 : Int} : ∀ (r : List S44) (i : Int) (bs R : List S37) (e : Int), ana c0 c4 c5 i bs r = (R, e, 0) → ∀ m, m ≤ r.length → ana c0 c4 c5 i bs (r.take m) = (R.take (bs.length + m), -1, 0)
  | [], i, bs, R, e, h, m, hm => by
    simp only [ana, Prod.mk.injEq] at h
    rw [List.take_nil, ana, h.1, List.take_of_length_le (by omega)]
  | n :: r, i, bs, R, e, h, m, hm => by
    obtain ⟨⟨t, ht, hlen⟩, _, _⟩ := ana_acc (n :: r) i bs R e h
    cases m with
    | zero =>
      rw [List.take_zero, ana, Nat.add_zero, ht, List.take_left]
    | succ m =>
      rw [ana] at h
      rw [List.take_succ_cons, ana]
      by_cases hb : bdd n = true
      · rw [if_pos hb] at h ⊢
        by_cases hq : 1099511627776 ≤ (boundOf bs c0 c4 c5 n).f2 ∨ 1099511627776 ≤ (boundOf bs c0 c4 c5 n).f3
        · rw [if_pos hq] at h
          simp at h
        · rw [if_neg hq] at h ⊢
          have := ana_take r (i + 1) (bs ++ [boundOf bs c0 c4 c5 n]) R e h m (by simpa using hm)
          rw [this, List.length_append, List.length_singleton, show bs.length + 1 + m = bs.length + (m + 1) by omega]
      · rw [if_neg hb] at h
        simp at h
theorem okFrom_take : ∀ (l : List S44) (i : Int) (m : Nat), okFrom i l = true → okFrom i (l.take m) = true
  | [], i, m, h => by rw [List.take_nil]; exact h
  | n :: l, i, 0, h => rfl
  | n :: l, i, m + 1, h => by
    rw [List.take_succ_cons, okFrom]
    rw [okFrom] at h
    obtain ⟨h1, h2⟩ := Bool.and_eq_true_iff.1 h
    rw [h1, okFrom_take l (i + 1) m h2]
    rfl
theorem analyze_take {l : List S44} {c0 c1 c2 c3 c4 c5 : Int} {bs : List S37} {e : Int} (h : analyze l c0 c1 c2 c3 c4 c5 = (bs, e, 0)) {m : Nat} (h1 : 1 ≤ m) (hm : m ≤ l.length) : analyze (l.take m) c0 c1 c2 c3 c4 c5 = (bs.take m, -1, 0) := by
  unfold analyze at h ⊢
  by_cases hc : rightC c0 c1 c2 c3 c4 c5 ∧ well l = true
  · rw [if_pos hc] at h
    have hw := well_len hc.2
    have hw2 : well (l.take m) = true := by
      unfold well
      rw [okFrom_take l 0 m hw.1, Bool.true_and]
      refine decide_eq_true ?_
      rw [List.length_take]
      omega
    rw [if_pos ⟨hc.1, hw2⟩, ana_take l 0 [] bs e h m hm]
    simp
  · rw [if_neg hc] at h
    simp at h
section
variable (l : List S44) (F : List S95) (hl : l.length ≤ 9223372036854775807) (hin : ∀ n ∈ l, n.f1.length ≤ 9223372036854775807) (c0 c1 c2 c3 c4 c5 : Int)
include hl hin
theorem Grow_j3 (h : (analyze l c0 c1 c2 c3 c4 c5).2.2 = 0) : Ev (fun k => erratalaw20_BoundsGrow.j3 k true (analyze l c0 c1 c2 c3 c4 c5).1 F l c0 c1 c2 c3 c4 c5) true := by
  have A : Acc l c0 c1 c2 c3 c4 c5 (analyze l c0 c1 c2 c3 c4 c5).1 := analyze_acc (e := (analyze l c0 c1 c2 c3 c4 c5).2.1) (by rw [← h])
  have hw := well_len A.well
  by_cases h2 : ((analyze l c0 c1 c2 c3 c4 c5).1.length : Int) < 2
  · refine Ev.step (f := fun _ => some true) (fun k => ?_) (Ev.now _)
    simp only [erratalaw20_BoundsGrow.j3]
    rw [if_pos h2]
  · have hlen := A.len
    have w1 : wrap64 ((l.length : Int) - 1) = ((l.length - 1 : Nat) : Int) := by rw [wrap_id (by omega) (by omega)]; omega
    have w2 : wrap64 (((analyze l c0 c1 c2 c3 c4 c5).1.length : Int) - 1) = ((l.length - 1 : Nat) : Int) := by rw [hlen]; exact w1
    have ht := analyze_take (l := l) (c0 := c0) (c1 := c1) (c2 := c2) (c3 := c3) (c4 := c4) (c5 := c5) (bs := (analyze l c0 c1 c2 c3 c4 c5).1) (e := (analyze l c0 c1 c2 c3 c4 c5).2.1) (by rw [← h]) (m := l.length - 1) (by omega) (by omega)
    have hv := Ana_ev (l.take (l.length - 1)) F (by rw [List.length_take]; omega) (fun n hn => hin n (List.mem_of_mem_take hn)) c0 c1 c2 c3 c4 c5
    rw [ht] at hv
    have hs := Same_ev ((analyze l c0 c1 c2 c3 c4 c5).1.take (l.length - 1)) (by rw [List.length_take]; omega)
    refine Ev.step (f := fun k => (bounds_Analyze.f k F (l.take (l.length - 1)) c0 c1 c2 c3 c4 c5).bind fun bt295 => (if bt295.2.2 = 0 then (if 0 ≤ (((l.length - 1 : Nat) : Int)) then (if ((l.length - 1 : Nat) : Int) ≤ ((analyze l c0 c1 c2 c3 c4 c5).1.length : Int) then ((errataref20_Same.f k bt295.1 ((analyze l c0 c1 c2 c3 c4 c5).1.take (l.length - 1))).bind fun t304 => (some t304)) else (none)) else (none)) else (some false))) (fun k => ?_) ?_
    · simp only [erratalaw20_BoundsGrow.j3]
      rw [if_neg h2, w1, w2, if_pos (by omega), if_pos (by omega), Int.toNat_natCast]
      simp only [if_true]
    · refine Ev.bind hv ?_
      refine Ev.congr (fun k => ?_) (Ev.bind hs (Ev.now _))
      rw [if_pos rfl, if_pos (by omega), if_pos (by omega)]
theorem Grow_l0 (b2 : List S37) (h : (analyze l c0 c1 c2 c3 c4 c5).2.2 = 0) (hb : ∀ j : Nat, j < l.length → Le37 (rd_T37 (analyze l c0 c1 c2 c3 c4 c5).1 (j : Int)) (rd_T37 b2 (j : Int))) (hlen : b2.length = l.length) :
    ∀ d i : Nat, i + d = l.length → Ev (fun k => erratalaw20_BoundsGrow.l0 k true (analyze l c0 c1 c2 c3 c4 c5).1 b2 (i : Int) F l c0 c1 c2 c3 c4 c5) true := by
  have A : Acc l c0 c1 c2 c3 c4 c5 (analyze l c0 c1 c2 c3 c4 c5).1 := analyze_acc (e := (analyze l c0 c1 c2 c3 c4 c5).2.1) (by rw [← h])
  have hl1 := A.len
  intro d
  induction d with
  | zero =>
    intro i hi
    refine Ev.step (f := fun k => erratalaw20_BoundsGrow.j3 k true (analyze l c0 c1 c2 c3 c4 c5).1 F l c0 c1 c2 c3 c4 c5) (fun k => ?_) (Grow_j3 l F hl hin c0 c1 c2 c3 c4 c5 h)
    simp only [erratalaw20_BoundsGrow.l0]
    rw [if_neg (by omega)]
  | succ d ih =>
    intro i hi
    obtain ⟨e0, e1, e2, e3⟩ := hb i (by omega)
    refine Ev.step (f := fun k => erratalaw20_BoundsGrow.j2 k true (analyze l c0 c1 c2 c3 c4 c5).1 b2 (i : Int) false F l c0 c1 c2 c3 c4 c5) (fun k => ?_) ?_
    · simp only [erratalaw20_BoundsGrow.l0]
      rw [if_pos (by omega), if_pos (by omega), if_pos (by omega), if_pos e0, if_pos e1, if_neg (by omega), decide_eq_false (by omega)]
    · refine Ev.step (f := fun k => erratalaw20_BoundsGrow.l0 k true (analyze l c0 c1 c2 c3 c4 c5).1 b2 ((i + 1 : Nat) : Int) F l c0 c1 c2 c3 c4 c5) (fun k => ?_) (ih (i + 1) (by omega))
      simp only [erratalaw20_BoundsGrow.j2, Bool.false_eq_true, if_false]
      rw [cast_succ, wrap_id (n := ((i + 1 : Nat) : Int)) (by omega) (by omega)]
theorem Grow_j0 (a2 a3 a4 : Int) (b : Bool) (hb : b = false → (0 ≤ a2 ∧ a2 ≤ 8) ∧ (0 ≤ a3 ∧ a3 ≤ 20) ∧ 0 ≤ a4 ∧ a4 ≤ 30000) : Ev (fun k => erratalaw20_BoundsGrow.j0 k a2 a3 a4 true b F l c0 c1 c2 c3 c4 c5) true := by
  cases b with
  | true =>
    refine Ev.step (f := fun _ => some true) (fun k => ?_) (Ev.now _)
    simp only [erratalaw20_BoundsGrow.j0, if_true]
  | false =>
    obtain ⟨g2, g3, g4⟩ := hb rfl
    refine Ev.step (f := ?f) (fun k => ?e) ?g
    case e =>
      simp only [erratalaw20_BoundsGrow.j0, Bool.false_eq_true, if_false]
      rfl
    case g =>
      refine Ev.bind (Ana_ev l F hl hin c0 c1 c2 c3 c4 c5) ?_
      by_cases h : (analyze l c0 c1 c2 c3 c4 c5).2.2 = 0
      · have A : Acc l c0 c1 c2 c3 c4 c5 (analyze l c0 c1 c2 c3 c4 c5).1 := analyze_acc (e := (analyze l c0 c1 c2 c3 c4 c5).2.1) (by rw [← h])
        have hr := A.right
        unfold rightC at hr
        have w0 : wrap64 (c0 + a2) = c0 + a2 := wrap_id (by omega) (by omega)
        have w4 : wrap64 (c4 + a3) = c4 + a3 := wrap_id (by omega) (by omega)
        have w5 : wrap64 (c5 + a4) = c5 + a4 := wrap_id (by omega) (by omega)
        refine Ev.congr (fun k => by rw [if_pos h, w0, w4, w5]) (Ev.bind (Ana_ev l F hl hin (c0 + a2) c1 c2 c3 (c4 + a3) (c5 + a4)) ?_)
        · by_cases h2 : (analyze l (c0 + a2) c1 c2 c3 (c4 + a3) (c5 + a4)).2.2 = 0
          · have B : Acc l (c0 + a2) c1 c2 c3 (c4 + a3) (c5 + a4) (analyze l (c0 + a2) c1 c2 c3 (c4 + a3) (c5 + a4)).1 := analyze_acc (e := (analyze l (c0 + a2) c1 c2 c3 (c4 + a3) (c5 + a4)).2.1) (by rw [← h2])
            refine Ev.congr (fun k => ?_) (Grow_l0 l F hl hin c0 c1 c2 c3 c4 c5 (analyze l (c0 + a2) c1 c2 c3 (c4 + a3) (c5 + a4)).1 h (fun j hj => acc_mono A B (by omega) (by omega) (by omega) (j + 1) j (by omega) hj) B.len l.length 0 (by omega))
            rw [if_pos h2, if_pos (by rw [A.len, B.len])]
            rfl
          · refine Ev.congr (fun k => ?_) (Grow_j3 l F hl hin c0 c1 c2 c3 c4 c5 h)
            rw [if_neg h2]
      · refine Ev.congr (fun k => ?_) (Ev.now _)
        rw [if_neg h]
theorem Grow_ev (a2 a3 a4 : Int) : Ev (fun k => erratalaw20_BoundsGrow.f k F l c0 c1 c2 c3 c4 c5 a2 a3 a4) true := by
  have J := Grow_j0 l F hl hin c0 c1 c2 c3 c4 c5 a2 a3 a4
  refine Ev.congr (fun k => by unfold erratalaw20_BoundsGrow.f; rfl) (Ev.bind small_ev (Ev.bind (few_ev l F hl) ?_))
  by_cases hf : few l = true
  · by_cases g1 : a2 < 0
    · exact Ev.congr (fun k => by rw [if_pos hf, if_pos g1]) (J true (by simp))
    by_cases g2 : a2 > 8
    · exact Ev.congr (fun k => by rw [if_pos hf, if_neg g1, if_pos g2]) (J true (by simp))
    by_cases g3 : a3 < 0
    · exact Ev.congr (fun k => by rw [if_pos hf, if_neg g1, if_neg g2, if_pos g3]) (J true (by simp))
    by_cases g4 : a3 > 20
    · exact Ev.congr (fun k => by rw [if_pos hf, if_neg g1, if_neg g2, if_neg g3, if_pos g4]) (J true (by simp))
    by_cases g5 : a4 < 0
    · exact Ev.congr (fun k => by rw [if_pos hf, if_neg g1, if_neg g2, if_neg g3, if_neg g4, if_pos g5]) (J true (by simp))
    exact Ev.congr (fun k => by rw [if_pos hf, if_neg g1, if_neg g2, if_neg g3, if_neg g4, if_neg g5]) (J (decide (a4 > 30000)) (by simp; omega))
  · exact Ev.congr (fun k => by rw [if_neg hf]) (J true (by simp))
theorem Grow_true (a2 a3 a4 : Int) : ∃ k, erratalaw20_BoundsGrow.f k F l c0 c1 c2 c3 c4 c5 a2 a3 a4 = some true := (Grow_ev l F hl hin c0 c1 c2 c3 c4 c5 a2 a3 a4).rounds
end
end Go.Proofs.Yteoljddobfnfiaa.Pure
end
section
namespace Go.Proofs.Yteoljddobfnfiaa.My
open Go.RowKit Go.Proofs.YteoljddobfnfiaaW.PrintWords

def OpensAt (P : Program) (t : TypeId) {α : Type} (d : Kd α) (good : α → Prop) (n : Nat) : Prop :=
  ∀ (H : Type) (enc : TypeId × Value → H) (w : World) (sp : Nat → Bool) (held : Bool) (cs : List Value) (x : DataW H × List MemPlace),
    DataW.trod enc P w 0 sp held n t cs = some x → ∃ a : α, d.K w a cs ∧ good a

theorem opens_int {P : Program} {t : TypeId} {k : IntKind} (ht : P.underlying t = some (.int k)) (n : Nat) : OpensAt P t (Kd.int k) (fun a => (Lit.int k a).wf = true) n := by
  intro H enc w sp held cs x h
  cases n with
  | zero => simp [DataW.trod] at h
  | succ n =>
    unfold DataW.trod at h
    rw [ht] at h
    split at h <;> simp_all
    obtain ⟨⟨rfl, hw⟩, rfl⟩ := h
    exact ⟨_, rfl, hw⟩
theorem opens_string {P : Program} {t : TypeId} (ht : P.underlying t = some .string) (n : Nat) : OpensAt P t Kd.string (fun s => s.size ≤ 9223372036854775807) n := by
  intro H enc w sp held cs x h
  cases n with
  | zero => simp [DataW.trod] at h
  | succ n =>
    unfold DataW.trod at h
    rw [ht] at h
    split at h <;> simp_all
    obtain ⟨hs, rfl⟩ := h
    exact ⟨_, rfl, hs⟩

theorem choose_list {α : Type} {p : Nat → α → Prop} : ∀ n : Nat, (∀ i, i < n → ∃ y, p i y) → ∃ l : List α, l.length = n ∧ ∀ i y, l[i]? = some y → p i y
  | 0, _ => ⟨[], rfl, fun i y h => by simp at h⟩
  | n + 1, h => by
    obtain ⟨l, hl, hp⟩ := choose_list n (fun i hi => h i (by omega))
    obtain ⟨y, hy⟩ := h n (by omega)
    refine ⟨l ++ [y], by simp [hl], fun i z hz => ?_⟩
    rcases Nat.lt_or_ge i n with hi | hi
    · rw [List.getElem?_append_left (by omega)] at hz
      exact hp i z hz
    · rw [List.getElem?_append_right (by omega)] at hz
      rcases Nat.eq_or_lt_of_le hi with rfl | hi
      · simp [hl] at hz
        subst hz
        exact hy
      · rw [List.getElem?_eq_none (by simp; omega)] at hz
        cases hz

theorem opens_slice {P : Program} {t e : TypeId} {α : Type} {d : Kd α} {good : α → Prop} (ht : P.underlying t = some (.slice e)) (hs : P.cellsOf e = d.sz) {n : Nat} (hd : ∀ m, m < n → OpensAt P e d good m) :
    OpensAt P t (Kd.slice e d) (fun xs => xs.length ≤ 9223372036854775807 ∧ ∀ a ∈ xs, good a) n := by
  intro H enc w sp held cs x h
  rcases DataW.trod_slice ht h with ⟨rfl, _⟩ | ⟨a, len, cap, elems, rest, m, rfl, rfl, _, _, hl, hm, hlen, hel, _, _⟩
  · exact ⟨[], ⟨none, 0, rfl, Nat.le_refl _, rfl, Nat.zero_le _, fun h => absurd h (Nat.lt_irrefl 0)⟩, Nat.zero_le _, by simp⟩
  · have each : ∀ i, i < len → ∃ y : α, good y ∧ ∃ c, c.length = d.sz ∧ d.K w y c ∧ ∀ j u, c[j]? = some u → w.cell? (a.add (i * d.sz + j)) = some u := by
      intro i hi
      have h1 := hel i hi
      rw [List.getElem?_eq_getElem (by omega)] at h1
      obtain ⟨c, hc, hy⟩ := Option.bind_eq_some_iff.1 h1
      obtain ⟨y, hk, hg⟩ := hd m (Nat.lt_succ_self m) H enc w sp held c _ hy
      obtain ⟨_, hlc, hcell⟩ := World.cells?_some hc
      refine ⟨y, hg, c, d.K_len hk, hk, fun j u hj => ?_⟩
      have hjl : j < c.length := by
        rcases Nat.lt_or_ge j c.length with h | h
        · exact h
        · rw [List.getElem?_eq_none h] at hj; cases hj
      have hcj := hcell j (by omega)
      rw [hj] at hcj
      rw [hs] at hcj
      rw [← hcj, Addr.add_add]
    obtain ⟨l, hll, hf⟩ := choose_list len each
    have hmx : maxLen = 9223372036854775807 := rfl
    refine ⟨l, ⟨some a, cap, by rw [hll], by omega, rfl, by omega, fun _ => ⟨a, rfl, fun j p hp => (hf j p hp).2⟩⟩, by omega, fun y hy => ?_⟩
    obtain ⟨j, hj⟩ := List.getElem?_of_mem hy
    exact (hf j y hj).1

def FieldsAt (P : Program) (fs : List Field) (o : Nat) {α : Type} (d : Kd α) (good : α → Prop) (n : Nat) : Prop :=
  ∀ (H : Type) (enc : TypeId × Value → H) (w : World) (sp : Nat → Bool) (held : Bool) (cs : List Value) (xs : List (DataW H × List MemPlace)), cs.length = o + d.sz → xs.length = fs.length →
    (∀ (i : Nat) (f : Field), fs[i]? = some f → DataW.trod enc P w 0 sp held n f.type ((cs.drop f.offset).take (P.cellsOf f.type)) = xs[i]?) → ∃ a : α, d.K w a (cs.drop o) ∧ good a
theorem fields_one {P : Program} {f : Field} {o : Nat} {α : Type} {d : Kd α} {good : α → Prop} {n : Nat} (ho : f.offset = o) (hs : P.cellsOf f.type = d.sz) (h : OpensAt P f.type d good n) : FieldsAt P [f] o d good n := by
  intro H enc w sp held cs xs hl hx hf
  match xs, hx with
  | [y], _ =>
    have h0 := hf 0 f rfl
    simp only [List.getElem?_cons_zero] at h0
    rw [ho, hs, List.take_of_length_le (by simp; omega)] at h0
    exact h H enc w sp held _ _ h0
theorem fields_cons {P : Program} {f : Field} {fs : List Field} {o : Nat} {α β : Type} {d : Kd α} {d' : Kd β} {good : α → Prop} {good' : β → Prop} {n : Nat} (ho : f.offset = o) (hs : P.cellsOf f.type = d.sz)
    (h : OpensAt P f.type d good n) (hr : FieldsAt P fs (o + d.sz) d' good' n) : FieldsAt P (f :: fs) o (Kd.pair d d') (fun x => good x.1 ∧ good' x.2) n := by
  intro H enc w sp held cs xs hl hx hf
  match xs, hx with
  | y :: ys, hx =>
    have h0 := hf 0 f rfl
    simp only [List.getElem?_cons_zero] at h0
    rw [ho, hs] at h0
    obtain ⟨a, ha, ga⟩ := h H enc w sp held _ _ h0
    have hl' : cs.length = o + d.sz + d'.sz := by rw [hl]; show o + (d.sz + d'.sz) = _; omega
    obtain ⟨b, hb, gb⟩ := hr H enc w sp held cs ys hl' (by simpa using hx) (fun i g hg => by simpa using hf (i + 1) g (by simpa using hg))
    refine ⟨(a, b), ⟨(cs.drop o).take d.sz, cs.drop (o + d.sz), ?_, ha, hb⟩, ga, gb⟩
    rw [← List.drop_drop, List.take_append_drop]
theorem opens_struct {P : Program} {t : TypeId} {fs : Array Field} {α β : Type} {d : Kd α} {good : α → Prop} (f : β → α) (g : α → β) (hfg : ∀ x, f (g x) = x) (ht : P.underlying t = some (.struct fs)) (hs : P.cellsOf t = d.sz) {n : Nat}
    (hd : ∀ m, m < n → FieldsAt P fs.toList 0 d good m) : OpensAt P t (Kd.iso d f) (fun x => good (f x)) n := by
  intro H enc w sp held cs x h
  obtain ⟨xs, m, hm, _, hl, hlen, hf⟩ := DataW.trod_struct ht h
  subst hm
  obtain ⟨a, ha, ga⟩ := hd m (Nat.lt_succ_self m) H enc w sp held cs xs (by rw [hl, hs]; omega) (by simpa using hlen) (fun i y hy => hf i y (by simpa using hy))
  refine ⟨g a, ?_, ?_⟩
  · show d.K w (f (g a)) cs
    rw [hfg]
    simpa using ha
  · show good (f (g a))
    rw [hfg]
    exact ga
theorem opens_imp {P : Program} {t : TypeId} {α : Type} {d : Kd α} {good good' : α → Prop} {n : Nat} (h : OpensAt P t d good n) (hg : ∀ x, good x → good' x) : OpensAt P t d good' n := by
  intro H enc w sp held cs x hx
  obtain ⟨a, ha, ga⟩ := h H enc w sp held cs x hx
  exact ⟨a, ha, hg a ga⟩
end Go.Proofs.Yteoljddobfnfiaa.My
end
section
namespace Go.Proofs.Yteoljddobfnfiaa.My
open Go.RowKit Go.WideShapes Go.Proofs.YteoljddobfnfiaaW.PrintWords Go.Proofs.Yteoljddobfnfiaa.PB
set_option linter.unusedVariables false
set_option linter.unusedSimpArgs false

theorem open_i (n : Nat) : OpensAt Try.prog 3 (Kd.int .i64) (fun a => (Lit.int .i64 a).wf = true) n := opens_int Try.underlying3 n
theorem open_s (n : Nat) : OpensAt Try.prog 9 Kd.string (fun s => s.size ≤ 9223372036854775807) n := opens_string (by kernel_rfl) n
theorem open38 (n : Nat) : OpensAt Try.prog 38 (Kd.slice 3 (Kd.int .i64)) (fun xs => xs.length ≤ 9223372036854775807 ∧ ∀ a ∈ xs, (Lit.int .i64 a).wf = true) n := opens_slice Try.underlying38 (by kernel_rfl) (fun m _ => open_i m)
theorem open50 (n : Nat) : OpensAt Try.prog 50 k50 (fun _ => True) n :=
  opens_imp (opens_struct (fun x : S50 => (x.f0, x.f1, x.f2)) (fun p => ⟨p.1, p.2.1, p.2.2⟩) (fun _ => rfl) Try.underlying50 (by kernel_rfl)
    (fun m _ => fields_cons rfl (by kernel_rfl) (open_s m) (fields_cons rfl (by kernel_rfl) (open_i m) (fields_one rfl (by kernel_rfl) (open_s m))))) (fun _ _ => trivial)
theorem open97 (n : Nat) : OpensAt Try.prog 97 k97 (fun _ => True) n :=
  opens_imp (opens_struct (fun x : S97 => (x.f0, x.f1, x.f2)) (fun p => ⟨p.1, p.2.1, p.2.2⟩) (fun _ => rfl) Try.underlying97 (by kernel_rfl)
    (fun m _ => fields_cons rfl (by kernel_rfl) (open_i m) (fields_cons rfl (by kernel_rfl) (open_i m) (fields_one rfl (by kernel_rfl) (open_s m))))) (fun _ _ => trivial)
theorem open93 (n : Nat) : OpensAt Try.prog 93 k93 (fun _ => True) n := by
  induction n using Nat.strongRecOn with
  | _ n ih =>
    have h : OpensAt Try.prog 93 (F93 k93) (fun _ => True) n :=
      opens_imp (opens_struct (fun x : S93 => (x.f0, x.f1, x.f2, x.f3)) (fun p => ⟨p.1, p.2.1, p.2.2.1, p.2.2.2⟩) (fun _ => rfl) Try.underlying93 (by kernel_rfl)
        (fun m hm => fields_cons rfl (by kernel_rfl) (open_i m) (fields_cons rfl (by kernel_rfl) (open_i m) (fields_cons rfl (by kernel_rfl) (open_s m)
          (fields_one rfl (by kernel_rfl) (opens_slice (t := 39) (e := 93) (d := k93) (good := fun _ => True) (by kernel_rfl) (by kernel_rfl) (fun j hj => ih j (by omega)))))))) (fun _ _ => trivial)
    intro H enc w sp held cs x hx
    obtain ⟨a, ⟨c0, r0, rfl, rfl, c1, r1, rfl, rfl, c2, r2, rfl, rfl, A, c, rfl, l, g⟩, _⟩ := h H enc w sp held cs x hx
    exact ⟨a, k93_mk w a l g, trivial⟩
theorem open99 (n : Nat) : OpensAt Try.prog 99 k99 (fun _ => True) n :=
  opens_imp (opens_struct (fun x : S99 => (x.f0, x.f1)) (fun p => ⟨p.1, p.2⟩) (fun _ => rfl) Try.underlying99 (by kernel_rfl)
    (fun m _ => fields_cons rfl (by kernel_rfl) (open93 m) (fields_one rfl (by kernel_rfl) (open_i m)))) (fun _ _ => trivial)
theorem open95 (n : Nat) : OpensAt Try.prog 95 k95 (fun _ => True) n :=
  opens_imp (opens_struct (fun x : S95 => (x.f0, x.f1, x.f2, x.f3)) (fun p => ⟨p.1, p.2.1, p.2.2.1, p.2.2.2⟩) (fun _ => rfl) Try.underlying95 (by kernel_rfl)
    (fun m _ => fields_cons rfl (by kernel_rfl) (open_s m) (fields_cons rfl (by kernel_rfl) (open38 m) (fields_cons rfl (by kernel_rfl) (open_i m) (fields_one rfl (by kernel_rfl) (open93 m)))))) (fun _ _ => trivial)
def good44 (x : S44) : Prop := x.f1.length ≤ 9223372036854775807 ∧ x.f14.length ≤ 9223372036854775807 ∧ x.f15.length ≤ 9223372036854775807 ∧ (Lit.int .i64 x.f0).wf = true ∧ (Lit.int .i64 x.f5).wf = true ∧ (Lit.int .i64 x.f6).wf = true ∧ (Lit.int .i64 x.f7).wf = true ∧ (Lit.int .i64 x.f10).wf = true ∧ (Lit.int .i64 x.f11).wf = true ∧ (Lit.int .i64 x.f12).wf = true
theorem open_sl {e s : TypeId} {α : Type} {d : Kd α} {good : α → Prop} (ht : Try.prog.underlying s = some (.slice e)) (hs : Try.prog.cellsOf e = d.sz) (h : ∀ n, OpensAt Try.prog e d good n) (n : Nat) : OpensAt Try.prog s (Kd.slice e d) (fun xs => xs.length ≤ 9223372036854775807 ∧ ∀ a ∈ xs, good a) n := opens_slice ht hs (fun m _ => h m)
theorem open44 (n : Nat) : OpensAt Try.prog 44 k44 good44 n :=
  opens_imp (opens_struct (fun x : S44 => (x.f0, x.f1, x.f2, x.f3, x.f4, x.f5, x.f6, x.f7, x.f8, x.f9, x.f10, x.f11, x.f12, x.f13, x.f14, x.f15))
      (fun ⟨p0, p1, p2, p3, p4, p5, p6, p7, p8, p9, p10, p11, p12, p13, p14, p15⟩ => ⟨p0, p1, p2, p3, p4, p5, p6, p7, p8, p9, p10, p11, p12, p13, p14, p15⟩) (fun _ => rfl) Try.underlying44 (by kernel_rfl)
    (fun m _ => fields_cons rfl (by kernel_rfl) (open_i m) <| fields_cons rfl (by kernel_rfl) (open38 m) <| fields_cons rfl (by kernel_rfl) (open_s m) <| fields_cons rfl (by kernel_rfl) (open_i m) <|
      fields_cons rfl (by kernel_rfl) (open_sl (e := 93) (d := k93) (by kernel_rfl) (by kernel_rfl) open93 m) <| fields_cons rfl (by kernel_rfl) (open_i m) <| fields_cons rfl (by kernel_rfl) (open_i m) <| fields_cons rfl (by kernel_rfl) (open_i m) <|
      fields_cons rfl (by kernel_rfl) (open38 m) <| fields_cons rfl (by kernel_rfl) (open38 m) <| fields_cons rfl (by kernel_rfl) (open_i m) <| fields_cons rfl (by kernel_rfl) (open_i m) <| fields_cons rfl (by kernel_rfl) (open_i m) <|
      fields_cons rfl (by kernel_rfl) (open_sl (e := 97) (d := k97) (by kernel_rfl) (by kernel_rfl) open97 m) <| fields_cons rfl (by kernel_rfl) (open_sl (e := 99) (d := k99) (by kernel_rfl) (by kernel_rfl) open99 m) <|
      fields_one rfl (by kernel_rfl) (open_sl (e := 50) (d := k50) (by kernel_rfl) (by kernel_rfl) open50 m)))
    (fun x ⟨h0, h1, h2, h3, h4, h5, h6, h7, h8, h9, h10, h11, h12, h13, h14, h15⟩ => ⟨h1.1, h14.1, h15.1, h0, h5, h6, h7, h10, h11, h12⟩)

theorem open_plan {H : Type} {enc : TypeId × Value → H} {w : World} {sp : Nat → Bool} {held : Bool} {r : Reach} {b0 : Nat} {v : Value} {d : DataW H} {p : List MemPlace}
    (hv : Value.okWide Try.prog w r b0 25 v) (h : DataW.Trod enc Try.prog w 0 sp held 25 v d p) :
    ∃ (A0 : Option Addr) (c0 : Nat) (F : List S95) (A1 : Option Addr) (c1 : Nat) (l : List S44), v = .agg #[.slice A0 F.length c0, .slice A1 l.length c1] ∧ Kd.C k95 w A0 F.length F ∧ F.length ≤ c0 ∧ Kd.C k44 w A1 l.length l ∧ l.length ≤ c1 ∧
      l.length ≤ 9223372036854775807 ∧ ∀ n ∈ l, good44 n := by
  obtain ⟨cs, rfl, hsz⟩ := okWide_struct Try.underlying25 hv
  obtain ⟨fuel, hf⟩ := h
  have ho : OpensAt Try.prog 25 (Kd.iso (Kd.pair (Kd.slice 95 k95) (Kd.slice 44 k44)) (fun x => x)) (fun x => (x.1.length ≤ 9223372036854775807 ∧ ∀ a ∈ x.1, True) ∧ x.2.length ≤ 9223372036854775807 ∧ ∀ a ∈ x.2, good44 a) fuel :=
    opens_struct (fun x => x) (fun p => p) (fun _ => rfl) Try.underlying25 (by kernel_rfl) (fun m _ => fields_cons rfl (by kernel_rfl) (open_sl (e := 95) (d := k95) (by kernel_rfl) (by kernel_rfl) open95 m) (fields_one rfl (by kernel_rfl) (open_sl (e := 44) (d := k44) (by kernel_rfl) (by kernel_rfl) open44 m)))
  obtain ⟨⟨F, l⟩, ⟨q0, q1, hq, ⟨A0, c0, rfl, l0, g0⟩, ⟨A1, c1, rfl, l1, g1⟩⟩, h1, h2, h3⟩ := ho H enc w sp held _ _ hf
  refine ⟨A0, c0, F, A1, c1, l, ?_, g0, l0, g1, l1, h2, h3⟩
  obtain ⟨cs⟩ := cs
  simp only [Value.cells] at hq
  subst hq
  rfl
theorem open_six {H : Type} {enc : TypeId × Value → H} {w : World} {sp : Nat → Bool} {held : Bool} {r : Reach} {b0 : Nat} {v : Value} {d : DataW H} {p : List MemPlace}
    (hv : Value.okWide Try.prog w r b0 27 v) (h : DataW.Trod enc Try.prog w 0 sp held 27 v d p) :
    ∃ a0 a1 a2 a3 a4 a5 : Int, v = .agg #[.int .i64 a0, .int .i64 a1, .int .i64 a2, .int .i64 a3, .int .i64 a4, .int .i64 a5] := by
  obtain ⟨cs, rfl, hsz⟩ := okWide_struct Try.underlying27 hv
  obtain ⟨fuel, hf⟩ := h
  have ho := opens_struct (d := Kd.pair (Kd.int .i64) (Kd.pair (Kd.int .i64) (Kd.pair (Kd.int .i64) (Kd.pair (Kd.int .i64) (Kd.pair (Kd.int .i64) (Kd.int .i64)))))) (fun x => x) (fun p => p) (fun _ => rfl) Try.underlying27 (by kernel_rfl) (n := fuel)
    (fun m _ => fields_cons rfl (by kernel_rfl) (open_i m) <| fields_cons rfl (by kernel_rfl) (open_i m) <| fields_cons rfl (by kernel_rfl) (open_i m) <| fields_cons rfl (by kernel_rfl) (open_i m) <| fields_cons rfl (by kernel_rfl) (open_i m) <| fields_one rfl (by kernel_rfl) (open_i m))
  obtain ⟨⟨a0, a1, a2, a3, a4, a5⟩, ⟨q0, r0, h0, rfl, q1, r1, rfl, rfl, q2, r2, rfl, rfl, q3, r3, rfl, rfl, q4, r4, rfl, rfl, rfl⟩, _⟩ := ho H enc w sp held _ _ hf
  refine ⟨a0, a1, a2, a3, a4, a5, ?_⟩
  obtain ⟨cs⟩ := cs
  simp only [Value.cells] at h0
  subst h0
  rfl
end Go.Proofs.Yteoljddobfnfiaa.My
namespace Go.Proofs.Yteoljddobfnfiaa.My
open Go.RowKit Go.WideShapes Go.Proofs.YteoljddobfnfiaaW.PrintWords Go.Proofs.Yteoljddobfnfiaa.PB
end Go.Proofs.Yteoljddobfnfiaa.My
end
section
namespace Go.Proofs.Yteoljddobfnfiaa.boundsGrow
open Go.ChangeShapes Go.WideShapes Go.ChangeAt Go.RowKit
set_option linter.unusedVariables false
theorem own : ownKnob Try.prog.godebug = none := by kernel_rfl
theorem laidOut : laidOutB Try.prog = true := by kernel_rfl
set_option maxRecDepth 100000 in
theorem lifted (os : Os) (started : os.Started) (H : Type) (enc : TypeId × Value → H) :
    ReturnsInHanded {} Try.checked os 4 .any (Rows.boundsGrowSpec.pre6 enc Try.prog Try.f4 Rows.boundsGrowRow.domain false) (Rows.boundsGrowSpec.post enc Try.prog Try.f4 false true false false) := by
  refine returnsInHanded_of_change_sized (C := Try.checked) own started (by kernel_rfl) Try.func4
    (ChangeSpec.witness6 (enc := enc) (C := Try.checked) false ⟨#[], #[.agg #[.slice none 0 0, .slice none 0 0], .agg #[.int .i64 0, .int .i64 0, .int .i64 0, .int .i64 0, .int .i64 0, .int .i64 0], .int .i64 0, .int .i64 0, .int .i64 0], []⟩ 8 (by kernel_rfl) (by kernel_rfl) (by kernel_rfl) (by kernel_rfl)) ?_
  intro W base args ds gs before hval0 hW hcnd hsz0 _
  have hval : ∀ (j : Nat) t v, Try.f4.params[j]? = some t → args[j]? = some v → Value.okWide Try.prog W .any base t v := hval0
  have hW' := hW
  obtain ⟨p, q, hA0, hV, rfl, hfz, hnd⟩ := hW
  have hA : DataW.TrodAll enc Try.prog W 0 (fun _ => true) true Try.f4.params.toList args.toList ds p := hA0
  rw [Try.params4] at hA hval
  obtain ⟨v0, vs0, d0, ds0, p0, q0, hargs, rfl, rfl, h0, r0⟩ := trodAll_cons hA
  obtain ⟨v1, vs1, d1, ds1, p1, q1, rfl, rfl, rfl, h1, r1⟩ := trodAll_cons r0
  obtain ⟨v2, vs2, d2, ds2, p2, q2, rfl, rfl, rfl, h2, r2⟩ := trodAll_cons r1
  obtain ⟨v3, vs3, d3, ds3, p3, q3, rfl, rfl, rfl, h3, r3⟩ := trodAll_cons r2
  obtain ⟨v4, vs4, d4, ds4, p4, q4, rfl, rfl, rfl, h4, r4⟩ := trodAll_cons r3
  obtain ⟨rfl, rfl, rfl⟩ := trodAll_nil r4
  obtain rfl : args = #[v0, v1, v2, v3, v4] := by cases args; simp_all
  obtain ⟨rfl, rfl⟩ := trodVars_none hV
  have lt0 : ∀ x ∈ p0, x.block < W.heap.size := by obtain ⟨m, hm⟩ := h0; exact DataW.trod_lt m _ _ _ hm
  have lt1 : ∀ x ∈ p1, x.block < W.heap.size := by obtain ⟨m, hm⟩ := h1; exact DataW.trod_lt m _ _ _ hm
  obtain ⟨A0, c0, F, A1, c1, l, rfl, g0, k0, g1, k1, hl, hg⟩ := My.open_plan (hval 0 25 v0 rfl rfl) h0
  obtain ⟨a0, a1, a2, a3, a4, a5, rfl⟩ := My.open_six (hval 1 27 v1 rfl rfl) h1
  obtain ⟨n2, rfl, rfl, rfl, w2⟩ := open_int Try.underlying3 (hval 2 3 v2 rfl rfl) h2
  obtain ⟨n3, rfl, rfl, rfl, w3⟩ := open_int Try.underlying3 (hval 3 3 v3 rfl rfl) h3
  obtain ⟨n4, rfl, rfl, rfl, w4⟩ := open_int Try.underlying3 (hval 4 3 v4 rfl rfl) h4
  clear hA0 hval0 hsz0
  obtain ⟨k, hk⟩ := Pure.Grow_true l F hl (fun n hn => (hg n hn).1) a0 a1 a2 a3 a4 a5 n2 n3 n4
  refine (PB.erratalaw20_BoundsGrow.calls k A0 c0 F A1 c1 l a0 a1 a2 a3 a4 a5 n2 n3 n4 W g0 k0 g1 k1 hk).mono fun e W' ⟨he, bel⟩ => ?_
  subst he
  exact ⟨_, rfl, _, _, _, [], _, [], hW', trodAll_mk1 (shut_bool Try.underlying4 _), (trodAll_cons_mk (Below.trod laidOut (by kernel_rfl) (of_decide_eq_true (by kernel_rfl)) h0 bel lt0) (trodAll_cons_mk (Below.trod laidOut (by kernel_rfl) (of_decide_eq_true (by kernel_rfl)) h1 bel lt1) (trodAll_cons_mk (shut_int Try.underlying3 w2) (trodAll_cons_mk (shut_int Try.underlying3 w3) (trodAll_cons_mk (shut_int Try.underlying3 w4) trodAll_mk0))))), rfl, bel.frame _, fun h => by cases h⟩
theorem over : Rows.boundsGrowRow.holds Try.pinned (OpenSpec.ofChange Rows.boundsGrowSpec) :=
  OpenClaim.holds_of_wide 4 Try.f4 rfl rfl rfl rfl rfl rfl rfl ⟨rfl, rfl, rfl, rfl, rfl⟩ rfl rfl rfl rfl rfl (by kernel_rfl) Try.func4 (by kernel_rfl)
    (of_decide_eq_true (by kernel_rfl)) (by unfold Func.isWrapper; first | (rw [if_pos (by decide +kernel)]; kernel_rfl) | (rw [if_neg (by decide +kernel)]; exact ⟨rfl, rfl⟩))
    (fun os started H enc _ => lifted os started H enc)
theorem proved : Rows.BoundsGrowSaid := over
#print axioms proved
end Go.Proofs.Yteoljddobfnfiaa.boundsGrow
namespace Go.Proofs.Yteoljddobfnfiaa
theorem boundsGrow_holds : Rows.BoundsGrowSaid := boundsGrow.proved
end Go.Proofs.Yteoljddobfnfiaa
end
