/- Part 3 of a proof: texts of this claim, joined by a program of this session's work; what is proved stands in the last part. No condition. -/
import Derived.Test.YteoljddobfnfiaaKD2
section
namespace Go.Proofs.Yteoljddobfnfiaa.PB
open Go.RowKit Go.Proofs.YteoljddobfnfiaaW.PrintWords Go.Proofs.YteoljddobfnfiaaW.PrintLast Go.Proofs.YteoljddobfnfiaaW.PrintMore
attribute [local go_sem] max2_int min2_int max_two min_two max_three min_three max_four min_four
attribute [local go_sem ↓ high] Go.Proofs.Yteoljddobfnfiaa.My.ld44_eq Go.Proofs.Yteoljddobfnfiaa.My.st44_eq Go.Proofs.Yteoljddobfnfiaa.My.ld27_eq Go.Proofs.Yteoljddobfnfiaa.My.st27_eq Go.Proofs.Yteoljddobfnfiaa.My.ld37_eq Go.Proofs.Yteoljddobfnfiaa.My.st37_eq Go.Proofs.Yteoljddobfnfiaa.My.ld65_eq Go.Proofs.Yteoljddobfnfiaa.My.st65_eq
attribute [local go_sem high] Go.Proofs.Yteoljddobfnfiaa.My.ld44_run Go.Proofs.Yteoljddobfnfiaa.My.st44_run Go.Proofs.Yteoljddobfnfiaa.My.ld27_run Go.Proofs.Yteoljddobfnfiaa.My.st27_run Go.Proofs.Yteoljddobfnfiaa.My.ld37_run Go.Proofs.Yteoljddobfnfiaa.My.st37_run Go.Proofs.Yteoljddobfnfiaa.My.ld65_run Go.Proofs.Yteoljddobfnfiaa.My.st65_run
open Go.Proofs.Yteoljddobfnfiaa.My
attribute [local go_sem] cell_map run_store_fnV one_int one_bool one_string one_slice one_fnV
set_option linter.unusedVariables false
set_option linter.unusedSimpArgs false

mutual
def bounds_bound.l0 : Nat → List (S37) → Int → Int → List Int → List Int → Int → Int → Int → List Int → ByteArray → Int → List (S93) → Int → Int → Int → List Int → List Int → Int → Int → Int → List (S97) → List (S99) → List (S50) → Int → Int → Int → Int → Int → Int → Int → Int → Int → Int → Int → Option Nat → Option Nat → Bool → Option (Int × Int × Int × Int)
  | 0, _, _, _, _, _, _, _, _, _, _, _, _, _, _, _, _, _, _, _, _, _, _, _, _, _, _, _, _, _, _, _, _, _, _, _, _, _ => none
  | k + 1, x1, x7, x8, x10, x27, x28, x29, x144000, x144001, x144002, x144003, x144004, x144005, x144006, x144007, x144008, x144009, x144010, x144011, x144012, x144013, x144014, x144015, x145000, x145001, x145002, x145003, x145004, x145005, x149000, x149001, x149002, x149003, x155000, x155001, x155002, x155003 => if x29 < x28 then (if 0 ≤ x29 then (if x29 < (x27.length : Int) then (if 0 ≤ (rd x27 x29) then (if (rd x27 x29) < (x1.length : Int) then (if x10.length < 17592186044416 then ((some (x10 ++ [(rd_T37 x1 (rd x27 x29)).f2] : List Int)).bind fun y159 => (if x155003 = true then ((bounds_times.f ((rd_T37 x1 (rd x27 x29)).f2) (wrap64 ((wrap64 (x145005 + ((rd_T37 x1 (rd x27 x29)).f1))) + x7))).bind fun t164 => ((bounds_plus.f x149003 t164).bind fun t165 => (bounds_bound.l0 k x1 x7 x8 y159 x27 x28 (wrap64 (x29 + 1)) x144000 x144001 x144002 x144003 x144004 x144005 x144006 x144007 x144008 x144009 x144010 x144011 x144012 x144013 x144014 x144015 x145000 x145001 x145002 x145003 x145004 x145005 (mx x149000 ((rd_T37 x1 (rd x27 x29)).f0)) (mx x149001 ((rd_T37 x1 (rd x27 x29)).f1)) x149002 t165 x155000 x155001 x155002 x155003))) else (bounds_bound.l0 k x1 x7 x8 y159 x27 x28 (wrap64 (x29 + 1)) x144000 x144001 x144002 x144003 x144004 x144005 x144006 x144007 x144008 x144009 x144010 x144011 x144012 x144013 x144014 x144015 x145000 x145001 x145002 x145003 x145004 x145005 (mx x149000 ((rd_T37 x1 (rd x27 x29)).f0)) (mx x149001 ((rd_T37 x1 (rd x27 x29)).f1)) x149002 x149003 x155000 x155001 x155002 x155003))) else (none)) else (none)) else (none)) else (none)) else (none)) else (if x144000 = 0 then (some (wrap64 (x149000 + x7), wrap64 (x149001 + x8), wrap64 (x145000 * x145004), x149003)) else (if x144000 = 3 then (if 0 < (x10.length : Int) then (if 1 < (x10.length : Int) then ((bounds_plus.f (rd x10 0) (rd x10 1)).bind fun t168 => (some (wrap64 (x149000 + x7), wrap64 (x149001 + x8), t168, x149003))) else (none)) else (none)) else (if x144000 = 4 then (bounds_bound.j1 k x10 x144000 (x144000 == 4) x144000 x144001 x144002 x144003 x144004 x144005 x144006 x144007 x144008 x144009 x144010 x144011 x144012 x144013 x144014 x144015 (wrap64 (x149000 + x7)) (wrap64 (x149001 + x8)) x149002 x149003) else (bounds_bound.j1 k x10 x144000 (x144000 == 5) x144000 x144001 x144002 x144003 x144004 x144005 x144006 x144007 x144008 x144009 x144010 x144011 x144012 x144013 x144014 x144015 (wrap64 (x149000 + x7)) (wrap64 (x149001 + x8)) x149002 x149003))))
def bounds_bound.j1 : Nat → List Int → Int → Bool → Int → List Int → ByteArray → Int → List (S93) → Int → Int → Int → List Int → List Int → Int → Int → Int → List (S97) → List (S99) → List (S50) → Int → Int → Int → Int → Option (Int × Int × Int × Int)
  | 0, _, _, _, _, _, _, _, _, _, _, _, _, _, _, _, _, _, _, _, _, _, _, _ => none
  | k + 1, x10, x93, x116, x144000, x144001, x144002, x144003, x144004, x144005, x144006, x144007, x144008, x144009, x144010, x144011, x144012, x144013, x144014, x144015, x149000, x149001, x149002, x149003 => if x116 = true then (if 0 < (x10.length : Int) then ((bounds_times.f (rd x10 0) x144006).bind fun t170 => (some (x149000, x149001, t170, x149003))) else (none)) else (if x93 = 6 then (if 0 < (x10.length : Int) then (if 1 < (x10.length : Int) then ((bounds_times.f (rd x10 0) (rd x10 1)).bind fun t173 => ((bounds_times.f t173 (wrap64 ((wrap64 (x144010 + x144011)) + 2))).bind fun t174 => (some (x149000, x149001, t174, x149003)))) else (none)) else (none)) else (if 0 < (x10.length : Int) then (some (x149000, x149001, rd x10 0, x149003)) else (none)))
end
def bounds_bound.f (k : Nat) (a0_0 : Int) (l0_1 : List Int) (a0_2 : ByteArray) (a0_3 : Int) (l0_4 : List (S93)) (a0_5 : Int) (a0_6 : Int) (a0_7 : Int) (l0_8 : List Int) (l0_9 : List Int) (a0_10 : Int) (a0_11 : Int) (a0_12 : Int) (l0_13 : List (S97)) (l0_14 : List (S99)) (l0_15 : List (S50)) (l1 : List (S37)) (a2_0 : Int) (a2_1 : Int) (a2_2 : Int) (a2_3 : Int) (a2_4 : Int) (a2_5 : Int) : Option (Int × Int × Int × Int) := (bounds_Own.f a0_0 l0_1 a0_2 a0_3 l0_4 a0_5 a0_6 a0_7 l0_8 l0_9 a0_10 a0_11 a0_12 l0_13 l0_14 l0_15).bind fun bt146 => ((bounds_of.f a0_0).bind fun bt149 => (bounds_bound.l0 k l1 bt146.1 bt146.2 ([] : List Int) l0_1 (l0_1.length : Int) 0 a0_0 l0_1 a0_2 a0_3 l0_4 a0_5 a0_6 a0_7 l0_8 l0_9 a0_10 a0_11 a0_12 l0_13 l0_14 l0_15 a2_0 a2_1 a2_2 a2_3 a2_4 a2_5 0 0 0 0 bt149.1 bt149.2.1 bt149.2.2.1 bt149.2.2.2.1))
theorem bounds_bound.mono_l : ∀ k, (∀ y0 y1 y2 y3 y4 y5 y6 y7 y8 y9 y10 y11 y12 y13 y14 y15 y16 y17 y18 y19 y20 y21 y22 y23 y24 y25 y26 y27 y28 y29 y30 y31 y32 y33 y34 y35 y36, LeO (bounds_bound.l0 k y0 y1 y2 y3 y4 y5 y6 y7 y8 y9 y10 y11 y12 y13 y14 y15 y16 y17 y18 y19 y20 y21 y22 y23 y24 y25 y26 y27 y28 y29 y30 y31 y32 y33 y34 y35 y36) (bounds_bound.l0 (k + 1) y0 y1 y2 y3 y4 y5 y6 y7 y8 y9 y10 y11 y12 y13 y14 y15 y16 y17 y18 y19 y20 y21 y22 y23 y24 y25 y26 y27 y28 y29 y30 y31 y32 y33 y34 y35 y36)) ∧ (∀ y0 y1 y2 y3 y4 y5 y6 y7 y8 y9 y10 y11 y12 y13 y14 y15 y16 y17 y18 y19 y20 y21 y22, LeO (bounds_bound.j1 k y0 y1 y2 y3 y4 y5 y6 y7 y8 y9 y10 y11 y12 y13 y14 y15 y16 y17 y18 y19 y20 y21 y22) (bounds_bound.j1 (k + 1) y0 y1 y2 y3 y4 y5 y6 y7 y8 y9 y10 y11 y12 y13 y14 y15 y16 y17 y18 y19 y20 y21 y22))
  | 0 => ⟨fun _ _ _ _ _ _ _ _ _ _ _ _ _ _ _ _ _ _ _ _ _ _ _ _ _ _ _ _ _ _ _ _ _ _ _ _ _ r h => by simp [bounds_bound.l0] at h, fun _ _ _ _ _ _ _ _ _ _ _ _ _ _ _ _ _ _ _ _ _ _ _ r h => by simp [bounds_bound.j1] at h⟩
  | k + 1 => by
    obtain ⟨ih0, ih1⟩ := bounds_bound.mono_l k
    refine ⟨?_, ?_⟩
    · intro y0 y1 y2 y3 y4 y5 y6 y7 y8 y9 y10 y11 y12 y13 y14 y15 y16 y17 y18 y19 y20 y21 y22 y23 y24 y25 y26 y27 y28 y29 y30 y31 y32 y33 y34 y35 y36
      unfold bounds_bound.l0
      repeat' first
      | (with_reducible first | exact ih0 _ _ _ _ _ _ _ _ _ _ _ _ _ _ _ _ _ _ _ _ _ _ _ _ _ _ _ _ _ _ _ _ _ _ _ _ _ | exact ih1 _ _ _ _ _ _ _ _ _ _ _ _ _ _ _ _ _ _ _ _ _ _ _ | exact LeO.refl _ | exact LeO.none _ | refine LeO.ite ?_ ?_ | refine LeO.bind ?_ (fun _ => ?_))
      | exact ih0 _ _ _ _ _ _ _ _ _ _ _ _ _ _ _ _ _ _ _ _ _ _ _ _ _ _ _ _ _ _ _ _ _ _ _ _ _ | exact ih1 _ _ _ _ _ _ _ _ _ _ _ _ _ _ _ _ _ _ _ _ _ _ _ | exact LeO.none _ | refine LeO.ite ?_ ?_ | refine LeO.bind ?_ (fun _ => ?_)
    · intro y0 y1 y2 y3 y4 y5 y6 y7 y8 y9 y10 y11 y12 y13 y14 y15 y16 y17 y18 y19 y20 y21 y22
      unfold bounds_bound.j1
      repeat' first
      | (with_reducible first | exact ih0 _ _ _ _ _ _ _ _ _ _ _ _ _ _ _ _ _ _ _ _ _ _ _ _ _ _ _ _ _ _ _ _ _ _ _ _ _ | exact ih1 _ _ _ _ _ _ _ _ _ _ _ _ _ _ _ _ _ _ _ _ _ _ _ | exact LeO.refl _ | exact LeO.none _ | refine LeO.ite ?_ ?_ | refine LeO.bind ?_ (fun _ => ?_))
      | exact ih0 _ _ _ _ _ _ _ _ _ _ _ _ _ _ _ _ _ _ _ _ _ _ _ _ _ _ _ _ _ _ _ _ _ _ _ _ _ | exact ih1 _ _ _ _ _ _ _ _ _ _ _ _ _ _ _ _ _ _ _ _ _ _ _ | exact LeO.none _ | refine LeO.ite ?_ ?_ | refine LeO.bind ?_ (fun _ => ?_)
theorem bounds_bound.mono : ∀ a0 a1 a2 a3 a4 a5 a6 a7 a8 a9 a10 a11 a12 a13 a14 a15 a16 a17 a18 a19 a20 a21 a22 k, LeO (bounds_bound.f k a0 a1 a2 a3 a4 a5 a6 a7 a8 a9 a10 a11 a12 a13 a14 a15 a16 a17 a18 a19 a20 a21 a22) (bounds_bound.f (k + 1) a0 a1 a2 a3 a4 a5 a6 a7 a8 a9 a10 a11 a12 a13 a14 a15 a16 a17 a18 a19 a20 a21 a22) := by
  intro a0 a1 a2 a3 a4 a5 a6 a7 a8 a9 a10 a11 a12 a13 a14 a15 a16 a17 a18 a19 a20 a21 a22 k
  obtain ⟨ih0, ih1⟩ := bounds_bound.mono_l k
  unfold bounds_bound.f
  repeat' first
      | (with_reducible first | exact ih0 _ _ _ _ _ _ _ _ _ _ _ _ _ _ _ _ _ _ _ _ _ _ _ _ _ _ _ _ _ _ _ _ _ _ _ _ _ | exact ih1 _ _ _ _ _ _ _ _ _ _ _ _ _ _ _ _ _ _ _ _ _ _ _ | exact LeO.refl _ | exact LeO.none _ | refine LeO.ite ?_ ?_ | refine LeO.bind ?_ (fun _ => ?_))
      | exact ih0 _ _ _ _ _ _ _ _ _ _ _ _ _ _ _ _ _ _ _ _ _ _ _ _ _ _ _ _ _ _ _ _ _ _ _ _ _ | exact ih1 _ _ _ _ _ _ _ _ _ _ _ _ _ _ _ _ _ _ _ _ _ _ _ | exact LeO.none _ | refine LeO.ite ?_ ?_ | refine LeO.bind ?_ (fun _ => ?_)
def bounds_bound.T8 : Bool × List (List Nat × List Nat) := (true, [([], []), ([0], [0]), ([], []), ([], []), ([2, 3], [2, 3]), ([4], [4]), ([5], [5]), ([1, 6], [1, 6]), ([], []), ([8], [8]), ([], []), ([], []), ([10, 11], [10, 11]), ([12], [12]), ([13], [13]), ([9, 14], [9, 14]), ([0, 1, 2, 3, 4, 5, 6, 7, 8, 9], []), ([16, 7, 0, 1, 2, 3, 4, 5, 6, 7, 8, 9], [7, 16]), ([0, 1, 2, 3, 4, 5, 6, 7, 8, 9, 10, 11, 12, 13, 14, 15, 16, 17], []), ([18, 15, 17, 0, 1, 2, 3, 4, 5, 6, 7, 8, 9, 10, 11, 12, 13, 14, 15, 16, 17], [15, 18])])
def bounds_bound.B8 : List Nat := [0, 1, 0, 0, 12, 28, 60, 127, 0, 256, 0, 0, 3072, 7168, 15360, 32512, 1023, 66559, 262143, 524287]
theorem bounds_bound.tab8 : rtab .any (opsOf Try.f26 8) = bounds_bound.T8 := by kernel_rfl
theorem bounds_bound.bits8 : waitsOk bounds_bound.T8.2 bounds_bound.B8 = true := by kernel_rfl
def bounds_bound.T11 : Bool × List (List Nat × List Nat) := (true, [([], []), ([0], [0]), ([], []), ([], []), ([2, 3], [2, 3]), ([4], [4]), ([5], [5]), ([], []), ([7], [7]), ([], []), ([], []), ([9, 10], [9, 10]), ([11], [11]), ([12], [12]), ([8, 13], [8, 13]), ([], []), ([14, 15], [14, 15]), ([6, 16], [6, 16]), ([1, 17, 17], [1, 17]), ([0, 1, 2, 3, 4, 5, 6, 7, 8, 9, 10, 11, 12, 13, 14, 15, 16, 17, 18], []), ([19, 18, 18, 0, 1, 2, 3, 4, 5, 6, 7, 8, 9, 10, 11, 12, 13, 14, 15, 16, 17, 18], [18, 19])])
def bounds_bound.B11 : List Nat := [0, 1, 0, 0, 12, 28, 60, 0, 128, 0, 0, 1536, 3584, 7680, 16256, 0, 65408, 131068, 262143, 524287, 1048575]
theorem bounds_bound.tab11 : rtab .any (opsOf Try.f26 11) = bounds_bound.T11 := by kernel_rfl
theorem bounds_bound.bits11 : waitsOk bounds_bound.T11.2 bounds_bound.B11 = true := by kernel_rfl
def bounds_bound.T20 : Bool × List (List Nat × List Nat) := (true, [([], []), ([0], [0]), ([1], [1]), ([], []), ([3], [3]), ([4], [4]), ([2, 5], [2, 5]), ([0, 1, 2, 3, 4, 5, 6], []), ([7, 6, 6, 0, 1, 2, 3, 4, 5, 6], [6, 7])])
def bounds_bound.B20 : List Nat := [0, 1, 3, 0, 8, 24, 63, 127, 255]
theorem bounds_bound.tab20 : rtab .any (opsOf Try.f26 20) = bounds_bound.T20 := by kernel_rfl
theorem bounds_bound.bits20 : waitsOk bounds_bound.T20.2 bounds_bound.B20 = true := by kernel_rfl
def bounds_bound.T23 : Bool × List (List Nat × List Nat) := (true, [([], []), ([0], [0]), ([1], [1]), ([], []), ([3], [3]), ([2, 4], [2, 4]), ([0, 1, 2, 3, 4, 5], []), ([6, 5, 5, 0, 1, 2, 3, 4, 5], [5, 6])])
def bounds_bound.B23 : List Nat := [0, 1, 3, 0, 8, 31, 63, 127]
theorem bounds_bound.tab23 : rtab .any (opsOf Try.f26 23) = bounds_bound.T23 := by kernel_rfl
theorem bounds_bound.bits23 : waitsOk bounds_bound.T23.2 bounds_bound.B23 = true := by kernel_rfl
def bounds_bound.T25 : Bool × List (List Nat × List Nat) := (true, [([], []), ([0], [0]), ([1], [1]), ([], []), ([3], [3]), ([4], [4]), ([2, 5], [2, 5]), ([], []), ([7], [7]), ([], []), ([9], [9]), ([8, 10], [8, 10]), ([11], [11]), ([6, 12, 6], [6, 12]), ([0, 1, 2, 3, 4, 5, 6, 7, 8, 9, 10, 11, 12, 13], []), ([14, 13, 13, 0, 1, 2, 3, 4, 5, 6, 7, 8, 9, 10, 11, 12, 13], [13, 14])])
def bounds_bound.B25 : List Nat := [0, 1, 3, 0, 8, 24, 63, 0, 128, 0, 512, 1920, 3968, 8191, 16383, 32767]
theorem bounds_bound.tab25 : rtab .any (opsOf Try.f26 25) = bounds_bound.T25 := by kernel_rfl
theorem bounds_bound.bits25 : waitsOk bounds_bound.T25.2 bounds_bound.B25 = true := by kernel_rfl
set_option maxHeartbeats 8000000 in
set_option maxRecDepth 100000 in
theorem bounds_bound.calls (k : Nat) (a0_0 : Int) (A0_1 : Option Addr) (c0_1 : Nat) (l0_1 : List Int) (a0_2 : ByteArray) (a0_3 : Int) (A0_4 : Option Addr) (c0_4 : Nat) (l0_4 : List (S93)) (a0_5 : Int) (a0_6 : Int) (a0_7 : Int) (A0_8 : Option Addr) (c0_8 : Nat) (l0_8 : List Int) (A0_9 : Option Addr) (c0_9 : Nat) (l0_9 : List Int) (a0_10 : Int) (a0_11 : Int) (a0_12 : Int) (A0_13 : Option Addr) (c0_13 : Nat) (l0_13 : List (S97)) (A0_14 : Option Addr) (c0_14 : Nat) (l0_14 : List (S99)) (A0_15 : Option Addr) (c0_15 : Nat) (l0_15 : List (S50)) (A1 : Option Addr) (c1 : Nat) (l1 : List (S37)) (a2_0 : Int) (a2_1 : Int) (a2_2 : Int) (a2_3 : Int) (a2_4 : Int) (a2_5 : Int) (r1 : Int) (r2 : Int) (r3 : Int) (r4 : Int) (w : World) (hr0_1 : Kd.C (Kd.int .i64) w A0_1 l0_1.length l0_1) (hc0_1 : l0_1.length ≤ c0_1) (hr0_4 : Kd.C k93 w A0_4 l0_4.length l0_4) (hc0_4 : l0_4.length ≤ c0_4) (hr0_8 : Kd.C (Kd.int .i64) w A0_8 l0_8.length l0_8) (hc0_8 : l0_8.length ≤ c0_8) (hr0_9 : Kd.C (Kd.int .i64) w A0_9 l0_9.length l0_9) (hc0_9 : l0_9.length ≤ c0_9) (hr0_13 : Kd.C k97 w A0_13 l0_13.length l0_13) (hc0_13 : l0_13.length ≤ c0_13) (hr0_14 : Kd.C k99 w A0_14 l0_14.length l0_14) (hc0_14 : l0_14.length ≤ c0_14) (hr0_15 : Kd.C k50 w A0_15 l0_15.length l0_15) (hc0_15 : l0_15.length ≤ c0_15) (hr1 : Kd.C k37 w A1 l1.length l1) (hc1 : l1.length ≤ c1) (h : bounds_bound.f k a0_0 l0_1 a0_2 a0_3 l0_4 a0_5 a0_6 a0_7 l0_8 l0_9 a0_10 a0_11 a0_12 l0_13 l0_14 l0_15 l1 a2_0 a2_1 a2_2 a2_3 a2_4 a2_5 = some (r1, r2, r3, r4)) :
    Calls Try.prog 26 #[.agg #[.int .i64 a0_0, .slice A0_1 l0_1.length c0_1, .string a0_2, .int .i64 a0_3, .slice A0_4 l0_4.length c0_4, .int .i64 a0_5, .int .i64 a0_6, .int .i64 a0_7, .slice A0_8 l0_8.length c0_8, .slice A0_9 l0_9.length c0_9, .int .i64 a0_10, .int .i64 a0_11, .int .i64 a0_12, .slice A0_13 l0_13.length c0_13, .slice A0_14 l0_14.length c0_14, .slice A0_15 l0_15.length c0_15], .slice A1 l1.length c1, .agg #[.int .i64 a2_0, .int .i64 a2_1, .int .i64 a2_2, .int .i64 a2_3, .int .i64 a2_4, .int .i64 a2_5]] w fun e w' => e = .returned (.agg #[.int .i64 r1, .int .i64 r2, .int .i64 r3, .int .i64 r4]) ∧ Below w.heap.size w w' := by
 have hu44 := Try.underlying44
 have hu27 := Try.underlying27
 have hu37 := Try.underlying37
 have hu65 := Try.underlying65
 have HR0_1 := Aside0.mk hr0_1
 have HC0_1 := Aside0.mk hc0_1
 clear hr0_1 hc0_1
 have HR0_4 := Aside0.mk hr0_4
 have HC0_4 := Aside0.mk hc0_4
 clear hr0_4 hc0_4
 have HR0_8 := Aside0.mk hr0_8
 have HC0_8 := Aside0.mk hc0_8
 clear hr0_8 hc0_8
 have HR0_9 := Aside0.mk hr0_9
 have HC0_9 := Aside0.mk hc0_9
 clear hr0_9 hc0_9
 have HR0_13 := Aside0.mk hr0_13
 have HC0_13 := Aside0.mk hc0_13
 clear hr0_13 hc0_13
 have HR0_14 := Aside0.mk hr0_14
 have HC0_14 := Aside0.mk hc0_14
 clear hr0_14 hc0_14
 have HR0_15 := Aside0.mk hr0_15
 have HC0_15 := Aside0.mk hc0_15
 clear hr0_15 hc0_15
 have HR1 := Aside0.mk hr1
 have HC1 := Aside0.mk hc1
 clear hr1 hc1
 have HB := Aside0.mk (Below.refl w.heap.size w)
 have H : ((bounds_Own.f a0_0 l0_1 a0_2 a0_3 l0_4 a0_5 a0_6 a0_7 l0_8 l0_9 a0_10 a0_11 a0_12 l0_13 l0_14 l0_15).bind fun bt146 => ((bounds_of.f a0_0).bind fun bt149 => (bounds_bound.l0 k l1 bt146.1 bt146.2 ([] : List Int) l0_1 (l0_1.length : Int) 0 a0_0 l0_1 a0_2 a0_3 l0_4 a0_5 a0_6 a0_7 l0_8 l0_9 a0_10 a0_11 a0_12 l0_13 l0_14 l0_15 a2_0 a2_1 a2_2 a2_3 a2_4 a2_5 0 0 0 0 bt149.1 bt149.2.1 bt149.2.2.1 bt149.2.2.2.1))) = some (r1, r2, r3, r4) := h
 clear h
 replace H := Option.bind_eq_some_iff.mp H
 obtain ⟨⟨t146, t147⟩, A40, H⟩ := H
 try dsimp only at H
 have A4 := Aside0.mk A40
 clear A40
 replace H := Option.bind_eq_some_iff.mp H
 obtain ⟨⟨t149, t150, t151, t152, t153⟩, A50, H⟩ := H
 try dsimp only at H
 have A5 := Aside0.mk A50
 clear A50
 have H' := Aside0.mk H
 clear H
 go_enter Try.func26, Try.ntmps26
 go_wp2_with (first | ((with_reducible refine gate_dst (N := 3) rfl ?_); refine box_event ?hg (N := 3) ?hd (cs := (B44 a0_0 A0_1 l0_1 c0_1 a0_2 a0_3 A0_4 l0_4 c0_4 a0_5 a0_6 a0_7 A0_8 l0_8 c0_8 A0_9 l0_9 c0_9 a0_10 a0_11 a0_12 A0_13 l0_13 c0_13 A0_14 l0_14 c0_14 A0_15 l0_15 c0_15)) (t := 44) ?hr ?_; (case hd => rfl); (case hg => rfl); (case hr => first | (go_simp; done) | (go_simp; rfl)); intro gb143 hg w6 hbox hb; have BK143 := Aside0.mk (hbox); have GW143 := Aside0.mk ((by rw [hg]; exact below_sizeA : w.heap.size ≤ gb143)); have GE143 := GW143; replace HB := Aside0.mk (below_stepA hb); clear hb hbox hg) | ((with_reducible refine gate_dst (N := 5) rfl ?_); refine box_event ?hg (N := 5) ?hd (cs := #[.int .i64 a2_0, .int .i64 a2_1, .int .i64 a2_2, .int .i64 a2_3, .int .i64 a2_4, .int .i64 a2_5]) (t := 27) ?hr ?_; (case hd => rfl); (case hg => rfl); (case hr => first | (go_simp; done) | (go_simp; rfl)); intro gb144 hg w7 hbox hb; have BK144 := Aside0.mk (hbox); have GW144 := Aside0.mk ((by rw [hg]; exact below_sizeA : w.heap.size ≤ gb144)); have GE144 := GW144; have NB143_144 := Aside0.mk ((by rw [hg]; exact Nat.ne_of_lt (blk_ltKA BK143.out) : gb143 ≠ gb144)); have NB144_143 := Aside0.mk NB143_144.out.symm; replace BK143 := Aside0.mk (blk_keepA BK143.out hb); replace HB := Aside0.mk (below_stepA hb); clear hb hbox hg) | ((with_reducible refine gate_dst (N := 6) rfl ?_); refine box_event ?hg (N := 6) ?hd (cs := #[.int .i64 0, .int .i64 0, .int .i64 0, .int .i64 0]) (t := 37) ?hr ?_; (case hd => rfl); (case hg => rfl); (case hr => first | (go_simp; done) | (go_simp; rfl)); intro gb145 hg w8 hbox hb; have BK145 := Aside0.mk (hbox); have GW145 := Aside0.mk ((by rw [hg]; exact below_sizeA : w.heap.size ≤ gb145)); have GE145 := GW145; have NB143_145 := Aside0.mk ((by rw [hg]; exact Nat.ne_of_lt (blk_ltKA BK143.out) : gb143 ≠ gb145)); have NB145_143 := Aside0.mk NB143_145.out.symm; have NB144_145 := Aside0.mk ((by rw [hg]; exact Nat.ne_of_lt (blk_ltKA BK144.out) : gb144 ≠ gb145)); have NB145_144 := Aside0.mk NB144_145.out.symm; replace BK143 := Aside0.mk (blk_keepA BK143.out hb); replace BK144 := Aside0.mk (blk_keepA BK144.out hb); replace HB := Aside0.mk (below_stepA hb); clear hb hbox hg; have hnb9 := NB143_144.out; have hnc9 := NB144_143.out; have hnb10 := NB143_145.out; have hnc10 := NB145_143.out; have hz11 := blk16 BK143.out) | ((with_reducible refine gate_callee (f := 17) rfl ?_); refine goesL_ (some 17) rfl rfl Try.func17 (by kernel_rfl) rfl #[.agg (B44 a0_0 A0_1 l0_1 c0_1 a0_2 a0_3 A0_4 l0_4 c0_4 a0_5 a0_6 a0_7 A0_8 l0_8 c0_8 A0_9 l0_9 c0_9 a0_10 a0_11 a0_12 A0_13 l0_13 c0_13 A0_14 l0_14 c0_14 A0_15 l0_15 c0_15)] rfl mapA ?_; (with_reducible refine (bounds_Own.calls a0_0 _ _ l0_1 a0_2 a0_3 _ _ l0_4 a0_5 a0_6 a0_7 _ _ l0_8 _ _ l0_9 a0_10 a0_11 a0_12 _ _ l0_13 _ _ l0_14 _ _ l0_15 t146 t147 _ (c_belowA HR0_1.out) HC0_1.out (c_belowA HR0_4.out) HC0_4.out (c_belowA HR0_8.out) HC0_8.out (c_belowA HR0_9.out) HC0_9.out (c_belowA HR0_13.out) HC0_13.out (c_belowA HR0_14.out) HC0_14.out (c_belowA HR0_15.out) HC0_15.out A4.out).mono ?_); rintro e w12 ⟨rfl, hb⟩; refine ⟨_, rfl, ?_⟩; replace BK143 := Aside0.mk (blk_keepA BK143.out hb); replace BK144 := Aside0.mk (blk_keepA BK144.out hb); replace BK145 := Aside0.mk (blk_keepA BK145.out hb); replace HB := Aside0.mk (below_stepA hb); (try clear hb)) | ((with_reducible refine gate_dst (N := 9) rfl ?_); refine box_event ?hg (N := 9) ?hd (cs := #[.int .i64 0, .int .i64 0, .int .i64 0, .int .i64 0]) (t := 37) ?hr ?_; (case hd => rfl); (case hg => rfl); (case hr => first | (go_simp; done) | (go_simp; rfl)); intro gb148 hg w13 hbox hb; have BK148 := Aside0.mk (hbox); have GW148 := Aside0.mk ((by rw [hg]; exact below_sizeA : w.heap.size ≤ gb148)); have GE148 := GW148; have NB143_148 := Aside0.mk ((by rw [hg]; exact Nat.ne_of_lt (blk_ltKA BK143.out) : gb143 ≠ gb148)); have NB148_143 := Aside0.mk NB143_148.out.symm; have NB144_148 := Aside0.mk ((by rw [hg]; exact Nat.ne_of_lt (blk_ltKA BK144.out) : gb144 ≠ gb148)); have NB148_144 := Aside0.mk NB144_148.out.symm; have NB145_148 := Aside0.mk ((by rw [hg]; exact Nat.ne_of_lt (blk_ltKA BK145.out) : gb145 ≠ gb148)); have NB148_145 := Aside0.mk NB145_148.out.symm; replace BK143 := Aside0.mk (blk_keepA BK143.out hb); replace BK144 := Aside0.mk (blk_keepA BK144.out hb); replace BK145 := Aside0.mk (blk_keepA BK145.out hb); replace HB := Aside0.mk (below_stepA hb); clear hb hbox hg; have hnb14 := NB143_148.out; have hnc14 := NB148_143.out; have hz15 := blk16 BK143.out) | ((with_reducible refine gate_callee (f := 27) rfl ?_); refine goesL_ (some 23) rfl rfl Try.func27 (by kernel_rfl) rfl #[.int .i64 a0_0] rfl mapA ?_; (with_reducible refine (bounds_of.calls a0_0 t149 t150 t151 t152 t153 _ A5.out).mono ?_); rintro e w16 ⟨rfl, hb⟩; refine ⟨_, rfl, ?_⟩; replace BK143 := Aside0.mk (blk_keepA BK143.out hb); replace BK144 := Aside0.mk (blk_keepA BK144.out hb); replace BK145 := Aside0.mk (blk_keepA BK145.out hb); replace BK148 := Aside0.mk (blk_keepA BK148.out hb); replace HB := Aside0.mk (below_stepA hb); (try clear hb)) | ((with_reducible refine gate_dst (N := 11) rfl ?_); refine box_event ?hg (N := 11) ?hd (cs := #[.int .i64 0, fnV (none : Option Nat), fnV (none : Option Nat), .bool false]) (t := 65) ?hr ?_; (case hd => rfl); (case hg => rfl); (case hr => first | (go_simp; done) | (go_simp; rfl)); intro gb154 hg w17 hbox hb; have BK154 := Aside0.mk (hbox); have GW154 := Aside0.mk ((by rw [hg]; exact below_sizeA : w.heap.size ≤ gb154)); have GE154 := GW154; have NB143_154 := Aside0.mk ((by rw [hg]; exact Nat.ne_of_lt (blk_ltKA BK143.out) : gb143 ≠ gb154)); have NB154_143 := Aside0.mk NB143_154.out.symm; have NB144_154 := Aside0.mk ((by rw [hg]; exact Nat.ne_of_lt (blk_ltKA BK144.out) : gb144 ≠ gb154)); have NB154_144 := Aside0.mk NB144_154.out.symm; have NB145_154 := Aside0.mk ((by rw [hg]; exact Nat.ne_of_lt (blk_ltKA BK145.out) : gb145 ≠ gb154)); have NB154_145 := Aside0.mk NB145_154.out.symm; have NB148_154 := Aside0.mk ((by rw [hg]; exact Nat.ne_of_lt (blk_ltKA BK148.out) : gb148 ≠ gb154)); have NB154_148 := Aside0.mk NB148_154.out.symm; replace BK143 := Aside0.mk (blk_keepA BK143.out hb); replace BK144 := Aside0.mk (blk_keepA BK144.out hb); replace BK145 := Aside0.mk (blk_keepA BK145.out hb); replace BK148 := Aside0.mk (blk_keepA BK148.out hb); replace HB := Aside0.mk (below_stepA hb); clear hb hbox hg; have hnb18 := NB154_143.out; have hnc18 := NB143_154.out; have hnb19 := NB154_144.out; have hnc19 := NB144_154.out; have hnb20 := NB154_145.out; have hnc20 := NB145_154.out; have hnb21 := NB154_148.out; have hnc21 := NB148_154.out; have hz22 := blk4 BK154.out; have hz23 := blk16 BK143.out))
 go_loopg [10, 29] k (fun kq v10 v29 w' => ∃ (x10_1 : List Int) (x29_1 : Int) (x149000_1 : Int) (x149001_1 : Int) (x149003_1 : Int), v29 = .int .i64 x29_1 ∧ Aside0 (bounds_bound.l0 kq l1 t146 t147 x10_1 l0_1 (l0_1.length : Int) x29_1 a0_0 l0_1 a0_2 a0_3 l0_4 a0_5 a0_6 a0_7 l0_8 l0_9 a0_10 a0_11 a0_12 l0_13 l0_14 l0_15 a2_0 a2_1 a2_2 a2_3 a2_4 a2_5 x149000_1 x149001_1 0 x149003_1 t149 t150 t151 t152 = some (r1, r2, r3, r4)) ∧ Aside0 (kq ≤ k) ∧ Aside0 (Kd.R (Kd.int .i64) 3 w' w.heap.size (fun _ => True) v10 x10_1) ∧ Aside0 (w'.heap[gb143]? = some (.cells #[.int .i64 a0_0, (.slice A0_1 l0_1.length c0_1), .string a0_2, .int .i64 a0_3, (.slice A0_4 l0_4.length c0_4), .int .i64 a0_5, .int .i64 a0_6, .int .i64 a0_7, (.slice A0_8 l0_8.length c0_8), (.slice A0_9 l0_9.length c0_9), .int .i64 a0_10, .int .i64 a0_11, .int .i64 a0_12, (.slice A0_13 l0_13.length c0_13), (.slice A0_14 l0_14.length c0_14), (.slice A0_15 l0_15.length c0_15)] 44 (0, 0))) ∧ Aside0 (w'.heap[gb144]? = some (.cells #[.int .i64 a2_0, .int .i64 a2_1, .int .i64 a2_2, .int .i64 a2_3, .int .i64 a2_4, .int .i64 a2_5] 27 (0, 0))) ∧ Aside0 (w'.heap[gb145]? = some (.cells #[.int .i64 0, .int .i64 0, .int .i64 0, .int .i64 0] 37 (0, 0))) ∧ Aside0 (w'.heap[gb148]? = some (.cells #[.int .i64 x149000_1, .int .i64 x149001_1, .int .i64 0, .int .i64 x149003_1] 37 (0, 0))) ∧ Aside0 (w'.heap[gb154]? = some (.cells #[.int .i64 t149, fnV t150, fnV t151, .bool t152] 65 (0, 0))) ∧ Aside0 (Below w.heap.size w w'))
 case atStart => exact ⟨(([] : List Int)), (0), (0), (0), (0), (by first | rfl | (simp; done) | (simp [*]; done)), H', ⟨Nat.le_refl _⟩, ⟨by first | exact Kd.R_nil _ _ _ _ _ | exact Kd.N_nil _ _ _ _ _ | exact Kd.V_nil _ _ _ _ _ | exact Kd.Q_nil _ _ _ _ _ | exact Kd.S_nil _ _ _ _ _⟩, ⟨blk_move BK143.out⟩, ⟨blk_move BK144.out⟩, ⟨blk_move BK145.out⟩, ⟨blk_move BK148.out⟩, ⟨blk_move BK154.out⟩, ⟨by repeat (first | (with_reducible first | exact HB.out | apply below_alloc | apply pw_below_drewN | apply below_drew1 | refine below_set ?_ GE143.out | refine below_set ?_ GE144.out | refine below_set ?_ GE145.out | refine below_set ?_ GE148.out | refine below_set ?_ GE154.out) | exact HB.out)⟩⟩
 case round =>
  clear H'
  try clear c1
  try clear c2
  try clear p2
  try clear c9
  try clear c10
  try clear c14
  try clear c17
  try clear c18
  try clear c19
  try clear c20
  try clear c21
  try clear hz11
  try clear hz15
  try clear hz22
  try clear hz23
  obtain ⟨x10_1, x29_1, x149000_1, x149001_1, x149003_1, rfl, HA, HK1, HO_10, BK143, BK144, BK145, BK148, BK154, HB⟩ := hrel
  cases gk with
  | zero => exact absurd HA.out (by simp [bounds_bound.l0])
  | succ k1 =>
   have H := HA.out
   clear HA
   simp only [bounds_bound.l0] at H
   by_cases c24 : x29_1 < (l0_1.length : Int)
   ·
    rw [if_pos c24] at H
    have c24b0 : decide (x29_1 < (l0_1.length : Int)) = true := decide_eq_true c24
    clear c24
    by_cases c25 : 0 ≤ x29_1
    case neg => rw [if_neg c25] at H; exact absurd H (by simp)
    rw [if_pos c25] at H
    have c25b0 : decide (0 ≤ x29_1) = true := decide_eq_true c25
    clear c25
    by_cases c26 : x29_1 < (l0_1.length : Int)
    case neg => rw [if_neg c26] at H; exact absurd H (by simp)
    rw [if_pos c26] at H
    have c26b0 : decide (x29_1 < (l0_1.length : Int)) = true := decide_eq_true c26
    clear c26
    by_cases c27 : 0 ≤ (rd l0_1 x29_1)
    case neg => rw [if_neg c27] at H; exact absurd H (by simp)
    rw [if_pos c27] at H
    have c27b0 : decide (0 ≤ (rd l0_1 x29_1)) = true := decide_eq_true c27
    clear c27
    by_cases c28 : (rd l0_1 x29_1) < (l1.length : Int)
    case neg => rw [if_neg c28] at H; exact absurd H (by simp)
    rw [if_pos c28] at H
    have c28b0 : decide ((rd l0_1 x29_1) < (l1.length : Int)) = true := decide_eq_true c28
    clear c28
    obtain ⟨ji29, hji29⟩ : ∃ j_ : Int, (mx x149000_1 ((rd_T37 l1 (rd l0_1 x29_1)).f0)) = j_ := ⟨_, rfl⟩
    replace H : (if x10_1.length < 17592186044416 then ((some (x10_1 ++ [(rd_T37 l1 (rd l0_1 x29_1)).f2] : List Int)).bind fun y159 => (if t152 = true then ((bounds_times.f ((rd_T37 l1 (rd l0_1 x29_1)).f2) (wrap64 ((wrap64 (a2_5 + ((rd_T37 l1 (rd l0_1 x29_1)).f1))) + t146))).bind fun t164 => ((bounds_plus.f x149003_1 t164).bind fun t165 => (bounds_bound.l0 k1 l1 t146 t147 y159 l0_1 (l0_1.length : Int) (wrap64 (x29_1 + 1)) a0_0 l0_1 a0_2 a0_3 l0_4 a0_5 a0_6 a0_7 l0_8 l0_9 a0_10 a0_11 a0_12 l0_13 l0_14 l0_15 a2_0 a2_1 a2_2 a2_3 a2_4 a2_5 ji29 (mx x149001_1 ((rd_T37 l1 (rd l0_1 x29_1)).f1)) 0 t165 t149 t150 t151 t152))) else (bounds_bound.l0 k1 l1 t146 t147 y159 l0_1 (l0_1.length : Int) (wrap64 (x29_1 + 1)) a0_0 l0_1 a0_2 a0_3 l0_4 a0_5 a0_6 a0_7 l0_8 l0_9 a0_10 a0_11 a0_12 l0_13 l0_14 l0_15 a2_0 a2_1 a2_2 a2_3 a2_4 a2_5 ji29 (mx x149001_1 ((rd_T37 l1 (rd l0_1 x29_1)).f1)) 0 x149003_1 t149 t150 t151 t152))) else (none)) = some (r1, r2, r3, r4) := by first | (rw [hji29] at H; exact H) | (simp only [hji29] at H ⊢; exact H)
    have hji29_ : (if x149000_1 < ((rd_T37 l1 (rd l0_1 x29_1)).f0) then ((rd_T37 l1 (rd l0_1 x29_1)).f0) else x149000_1) = ji29 := hji29
    obtain ⟨ji30, hji30⟩ : ∃ j_ : Int, (mx x149001_1 ((rd_T37 l1 (rd l0_1 x29_1)).f1)) = j_ := ⟨_, rfl⟩
    replace H : (if x10_1.length < 17592186044416 then ((some (x10_1 ++ [(rd_T37 l1 (rd l0_1 x29_1)).f2] : List Int)).bind fun y159 => (if t152 = true then ((bounds_times.f ((rd_T37 l1 (rd l0_1 x29_1)).f2) (wrap64 ((wrap64 (a2_5 + ((rd_T37 l1 (rd l0_1 x29_1)).f1))) + t146))).bind fun t164 => ((bounds_plus.f x149003_1 t164).bind fun t165 => (bounds_bound.l0 k1 l1 t146 t147 y159 l0_1 (l0_1.length : Int) (wrap64 (x29_1 + 1)) a0_0 l0_1 a0_2 a0_3 l0_4 a0_5 a0_6 a0_7 l0_8 l0_9 a0_10 a0_11 a0_12 l0_13 l0_14 l0_15 a2_0 a2_1 a2_2 a2_3 a2_4 a2_5 ji29 ji30 0 t165 t149 t150 t151 t152))) else (bounds_bound.l0 k1 l1 t146 t147 y159 l0_1 (l0_1.length : Int) (wrap64 (x29_1 + 1)) a0_0 l0_1 a0_2 a0_3 l0_4 a0_5 a0_6 a0_7 l0_8 l0_9 a0_10 a0_11 a0_12 l0_13 l0_14 l0_15 a2_0 a2_1 a2_2 a2_3 a2_4 a2_5 ji29 ji30 0 x149003_1 t149 t150 t151 t152))) else (none)) = some (r1, r2, r3, r4) := by first | (rw [hji30] at H; exact H) | (simp only [hji30] at H ⊢; exact H)
    have hji30_ : (if x149001_1 < ((rd_T37 l1 (rd l0_1 x29_1)).f1) then ((rd_T37 l1 (rd l0_1 x29_1)).f1) else x149001_1) = ji30 := hji30
    by_cases c31 : x10_1.length < 17592186044416
    case neg => rw [if_neg c31] at H; exact absurd H (by simp)
    rw [if_pos c31] at H
    have LMc31 := Aside0.mk c31
    clear c31
    obtain ⟨y159, hy159⟩ : ∃ y_ : List Int, y_ = (x10_1 ++ [(rd_T37 l1 (rd l0_1 x29_1)).f2]) := ⟨_, rfl⟩
    replace H : (if t152 = true then ((bounds_times.f ((rd_T37 l1 (rd l0_1 x29_1)).f2) (wrap64 ((wrap64 (a2_5 + ((rd_T37 l1 (rd l0_1 x29_1)).f1))) + t146))).bind fun t164 => ((bounds_plus.f x149003_1 t164).bind fun t165 => (bounds_bound.l0 k1 l1 t146 t147 y159 l0_1 (l0_1.length : Int) (wrap64 (x29_1 + 1)) a0_0 l0_1 a0_2 a0_3 l0_4 a0_5 a0_6 a0_7 l0_8 l0_9 a0_10 a0_11 a0_12 l0_13 l0_14 l0_15 a2_0 a2_1 a2_2 a2_3 a2_4 a2_5 ji29 ji30 0 t165 t149 t150 t151 t152))) else (bounds_bound.l0 k1 l1 t146 t147 y159 l0_1 (l0_1.length : Int) (wrap64 (x29_1 + 1)) a0_0 l0_1 a0_2 a0_3 l0_4 a0_5 a0_6 a0_7 l0_8 l0_9 a0_10 a0_11 a0_12 l0_13 l0_14 l0_15 a2_0 a2_1 a2_2 a2_3 a2_4 a2_5 ji29 ji30 0 x149003_1 t149 t150 t151 t152)) = some (r1, r2, r3, r4) := by first | (rw [hy159]; with_reducible exact H) | (have H2_ := (Option.bind_some _ _).symm.trans H; rw [hy159]; with_reducible exact H2_) | (have H2_ := (Option.bind_some _ _).symm.trans H; with_reducible exact H2_) | with_reducible exact H | (rw [hy159]; exact H) | exact H
    have Ny159 := Aside0.mk hy159
    clear hy159
    by_cases c32 : t152 = true
    ·
     subst c32
     rw [if_pos rfl] at H
     replace H := Option.bind_eq_some_iff.mp H
     obtain ⟨t164, A330, H⟩ := H
     try dsimp only at H
     have A33 := Aside0.mk A330
     clear A330
     replace H := Option.bind_eq_some_iff.mp H
     obtain ⟨t165, A340, H⟩ := H
     try dsimp only at H
     have A34 := Aside0.mk A340
     clear A340
     have H' := Aside0.mk H
     clear H
     have p155 : 0 ≤ (x29_1 : Int) := odA
     have q155 : x29_1 < (l0_1.length : Int) := odA
     obtain ⟨ad155, e155, hx155_0⟩ := Kd.at_int HR0_1.out x29_1 p155 q155
     cases e155
     replace hx155_0 := pw_cell_below HB.out hx155_0
     replace p155 := eq_true p155
     replace q155 := eq_true q155
     try go_wp2
     have n0_ := Aside0.mk (Kd.R_drew HO_10.out)
     have n1_ := Aside0.mk (blk_drew BK143.out)
     have n2_ := Aside0.mk (blk_drew BK144.out)
     have n3_ := Aside0.mk (blk_drew BK145.out)
     have n4_ := Aside0.mk (blk_drew BK148.out)
     have n5_ := Aside0.mk (blk_drew BK154.out)
     have n6_ := Aside0.mk (below_drew1 HB.out)
     clear HO_10
     clear BK143
     clear BK144
     clear BK145
     clear BK148
     clear BK154
     clear HB
     have HO_10 := n0_
     have BK143 := n1_
     have BK144 := n2_
     have BK145 := n3_
     have BK148 := n4_
     have BK154 := n5_
     have HB := n6_
     clear n0_ n1_ n2_ n3_ n4_ n5_ n6_
     have p156 : 0 ≤ ((rd l0_1 x29_1) : Int) := odA
     have q156 : (rd l0_1 x29_1) < (l1.length : Int) := odA
     obtain ⟨ad156, e156, hx156_0, hx156_1, hx156_2, hx156_3⟩ := at_T37 HR1.out (rd l0_1 x29_1) p156 q156
     have hw156_3 := hx156_3
     have hw156_2 := hx156_2
     have hw156_1 := hx156_1
     have hw156_0 := hx156_0
     cases e156
     replace hx156_0 := pw_cell_below HB.out hx156_0
     replace hx156_1 := pw_cell_below HB.out hx156_1
     replace hx156_2 := pw_cell_below HB.out hx156_2
     replace hx156_3 := pw_cell_below HB.out hx156_3
     replace p156 := eq_true p156
     replace q156 := eq_true q156
     have p157 : 0 ≤ ((rd l0_1 x29_1) : Int) := odA
     have q157 : (rd l0_1 x29_1) < (l1.length : Int) := odA
     obtain ⟨ad157, e157, hx157_0, hx157_1, hx157_2, hx157_3⟩ := at_T37 HR1.out (rd l0_1 x29_1) p157 q157
     have hw157_3 := hx157_3
     have hw157_2 := hx157_2
     have hw157_1 := hx157_1
     have hw157_0 := hx157_0
     obtain rfl : ad156 = ad157 := (by injection e157)
     replace hx157_0 := pw_cell_below HB.out hx157_0
     replace hx157_1 := pw_cell_below HB.out hx157_1
     replace hx157_2 := pw_cell_below HB.out hx157_2
     replace hx157_3 := pw_cell_below HB.out hx157_3
     replace p157 := eq_true p157
     replace q157 := eq_true q157
     refine start_ (n := 20) (S := fun w' => w'.cell? ⟨gb148, 0, none⟩ = some (.int .i64 x149000_1) ∧ w'.cell? ⟨gb148, 1, none⟩ = some (.int .i64 x149001_1) ∧ w'.cell? ⟨gb148, 2, none⟩ = some (.int .i64 0) ∧ w'.cell? ⟨gb148, 3, none⟩ = some (.int .i64 x149003_1) ∧ w'.cell? (ad156.add (((rd l0_1 x29_1)).toNat * 4)) = some (.int .i64 ((rd_T37 l1 (rd l0_1 x29_1)).f0)) ∧ w'.cell? ⟨(ad156.add (((rd l0_1 x29_1)).toNat * 4)).block, (ad156.add (((rd l0_1 x29_1)).toNat * 4)).off + 1, none⟩ = some (.int .i64 ((rd_T37 l1 (rd l0_1 x29_1)).f1)) ∧ w'.cell? ⟨(ad156.add (((rd l0_1 x29_1)).toNat * 4)).block, (ad156.add (((rd l0_1 x29_1)).toNat * 4)).off + 2, none⟩ = some (.int .i64 ((rd_T37 l1 (rd l0_1 x29_1)).f2)) ∧ w'.cell? ⟨(ad156.add (((rd l0_1 x29_1)).toNat * 4)).block, (ad156.add (((rd l0_1 x29_1)).toNat * 4)).off + 3, none⟩ = some (.int .i64 ((rd_T37 l1 (rd l0_1 x29_1)).f3)) ∧ w'.cell? (ad156.add (((rd l0_1 x29_1)).toNat * 4)) = some (.int .i64 ((rd_T37 l1 (rd l0_1 x29_1)).f0)) ∧ w'.cell? ⟨(ad156.add (((rd l0_1 x29_1)).toNat * 4)).block, (ad156.add (((rd l0_1 x29_1)).toNat * 4)).off + 1, none⟩ = some (.int .i64 ((rd_T37 l1 (rd l0_1 x29_1)).f1)) ∧ w'.cell? ⟨(ad156.add (((rd l0_1 x29_1)).toNat * 4)).block, (ad156.add (((rd l0_1 x29_1)).toNat * 4)).off + 2, none⟩ = some (.int .i64 ((rd_T37 l1 (rd l0_1 x29_1)).f2)) ∧ w'.cell? ⟨(ad156.add (((rd l0_1 x29_1)).toNat * 4)).block, (ad156.add (((rd l0_1 x29_1)).toNat * 4)).off + 3, none⟩ = some (.int .i64 ((rd_T37 l1 (rd l0_1 x29_1)).f3))) (ds := [17, 19]) #[O,O,O,O,O,O,O,O,O,O,O,O,O,O,O,O,O,O,O,O] (by kernel_rfl) rfl rfl ⟨(blk_cell BK148.out 0).trans rfl, (blk_cell BK148.out 1).trans rfl, (blk_cell BK148.out 2).trans rfl, (blk_cell BK148.out 3).trans rfl, (pw_cell_below HB.out hw156_0), (pw_cell_below HB.out hw156_1), (pw_cell_below HB.out hw156_2), (pw_cell_below HB.out hw156_3), (pw_cell_below HB.out hw157_0), (pw_cell_below HB.out hw157_1), (pw_cell_below HB.out hw157_2), (pw_cell_below HB.out hw157_3)⟩ (fun hHeld => ?_); refine with_tabW bounds_bound.tab8 bounds_bound.bits8 (fun HT_ HW_ => ?_)
     generalize wr.drew = w35 at HO_10 BK143 BK144 BK145 BK148 BK154 HB hx156_0 hx156_1 hx156_2 hx156_3 hx157_0 hx157_1 hx157_2 hx157_3 hHeld ⊢
     refine pureA 0 33 #[J,O,O,O,O,O,O,O,O,O,O,O,O,O,O,O,O,O,O,O] ?_
     refine pureA 2 35 #[J,O,J,O,O,O,O,O,O,O,O,O,O,O,O,O,O,O,O,O] ?_
     refine pureA 3 36 #[J,O,J,J,O,O,O,O,O,O,O,O,O,O,O,O,O,O,O,O] ?_
     refine pureA 4 37 #[J,O,J,J,J,O,O,O,O,O,O,O,O,O,O,O,O,O,O,O] ?_
     refine pureA 5 38 #[J,O,J,J,J,J,O,O,O,O,O,O,O,O,O,O,O,O,O,O] ?_
     refine pureA 8 41 #[J,O,J,J,J,J,O,O,J,O,O,O,O,O,O,O,O,O,O,O] ?_
     refine pureA 10 43 #[J,O,J,J,J,J,O,O,J,O,J,O,O,O,O,O,O,O,O,O] ?_
     refine pureA 11 44 #[J,O,J,J,J,J,O,O,J,O,J,J,O,O,O,O,O,O,O,O] ?_
     refine pureA 12 45 #[J,O,J,J,J,J,O,O,J,O,J,J,J,O,O,O,O,O,O,O] ?_
     refine pureA 13 46 #[J,O,J,J,J,J,O,O,J,O,J,J,J,J,O,O,O,O,O,O] ?_
     refine takeA 1 34 #[J,J,J,J,J,J,O,O,J,O,J,J,J,J,O,O,O,O,O,O] ?_
     refine takeA 6 39 #[J,J,J,J,J,J,J,O,J,O,J,J,J,J,O,O,O,O,O,O] ?_
     refine pureA 7 40 #[J,J,J,J,J,J,J,J,J,O,J,J,J,J,O,O,O,O,O,O] ?_
     refine takeA 9 42 #[J,J,J,J,J,J,J,J,J,J,J,J,J,J,O,O,O,O,O,O] ?_
     refine pureA 16 49 #[J,J,J,J,J,J,J,J,J,J,J,J,J,J,O,O,J,O,O,O] ?_
     apply joinE2_ 2 #[J,J,J,J,J,J,J,J,J,J,J,J,J,J,J,J,J,J,O,O] 47 48
     case hmain =>
      intro hCont
      refine twoKL_ (i := 14) (j := 17) (Ni := some 47) (Nj := none) #[J,J,J,J,J,J,J,J,J,J,J,J,J,J,J,O,J,O,O,O] #[J,J,J,J,J,J,J,J,J,J,J,J,J,J,O,O,J,J,O,O] rfl rfl rfl rfl (by kernel_rfl) (by decide) (by decide) (fun K hK => ?_) (fun K hK => ?_)
      ·
       skip
       refine value_ (w1 := ?_) (v := ?_) (by rfl) rfl ?_ ?_
       rotate_left 2
       ·
        go_simp
        constructor
        ·
         rfl
        ·
         rfl
       refine hK.out _ _ (fun h_ => h_) ?_
       clear hK K
       refine norm_ (a' := ?_) ?_ ?_
       rotate_left
       ·
        show Act.put _ (some 47) _ = _
        simp only [Act.put, List.setIfInBounds_toArray, List.set_cons_zero, List.set_cons_succ, i64_w, i32_w]
        rfl
       refine pureA 15 48 #[J,J,J,J,J,J,J,J,J,J,J,J,J,J,J,J,J,O,O,O] ?_
       refine last_ (i := 17) (N := none) #[J,J,J,J,J,J,J,J,J,J,J,J,J,J,J,J,J,J,O,O] rfl rfl (one_of HT_.out (by kernel_rfl)) (by decide) (fun K hK => ?_)
       have hs36 : w35.cell? ⟨gb148, 0, none⟩ = some (.int .i64 x149000_1) := (blk_cell BK148.out 0).trans rfl
       have hfs36 := blk_frozen BK148.out 0
       have hns36_0 := NB143_148.out
       have hns36_1 := NB144_148.out
       have hns36_2 := NB145_148.out
       have hns36_4 := NB154_148.out
       have hms36_0 := NB148_143.out
       have hms36_1 := NB148_144.out
       have hms36_2 := NB148_145.out
       have hms36_4 := NB148_154.out
       refine skip_ (w1 := ?_) (by rfl) rfl ?_ ?_
       rotate_left
       ·
        go_simp
        rfl
       refine hK.out _ _ ?_
       clear hK K
       exact norm_ (by rfl) hCont
      ·
       skip
       have hs36 : w35.cell? ⟨gb148, 0, none⟩ = some (.int .i64 x149000_1) := (blk_cell BK148.out 0).trans rfl
       have hfs36 := blk_frozen BK148.out 0
       have hns36_0 := NB143_148.out
       have hns36_1 := NB144_148.out
       have hns36_2 := NB145_148.out
       have hns36_4 := NB154_148.out
       have hms36_0 := NB148_143.out
       have hms36_1 := NB148_144.out
       have hms36_2 := NB148_145.out
       have hms36_4 := NB148_154.out
       refine skip_ (w1 := ?_) (by rfl) rfl ?_ ?_
       rotate_left
       ·
        go_simp
        rfl
       refine hK.out _ _ ?_
       clear hK K
       have hq4_ : ∀ v_ : Value, (World.setCell w35 ⟨gb148, 0, none⟩ v_).cell? (ad156.add (((rd l0_1 x29_1)).toNat * 4)) = some (.int .i64 ((rd_T37 l1 (rd l0_1 x29_1)).f0)) := fun v_ => (((below_set HB.out GE148.out).cell (World.block_lt_of_cell? w _ hw156_0)).trans hw156_0)
       have hq5_ : ∀ v_ : Value, (World.setCell w35 ⟨gb148, 0, none⟩ v_).cell? ⟨(ad156.add (((rd l0_1 x29_1)).toNat * 4)).block, (ad156.add (((rd l0_1 x29_1)).toNat * 4)).off + 1, none⟩ = some (.int .i64 ((rd_T37 l1 (rd l0_1 x29_1)).f1)) := fun v_ => (((below_set HB.out GE148.out).cell (World.block_lt_of_cell? w _ hw156_1)).trans hw156_1)
       have hq6_ : ∀ v_ : Value, (World.setCell w35 ⟨gb148, 0, none⟩ v_).cell? ⟨(ad156.add (((rd l0_1 x29_1)).toNat * 4)).block, (ad156.add (((rd l0_1 x29_1)).toNat * 4)).off + 2, none⟩ = some (.int .i64 ((rd_T37 l1 (rd l0_1 x29_1)).f2)) := fun v_ => (((below_set HB.out GE148.out).cell (World.block_lt_of_cell? w _ hw156_2)).trans hw156_2)
       have hq7_ : ∀ v_ : Value, (World.setCell w35 ⟨gb148, 0, none⟩ v_).cell? ⟨(ad156.add (((rd l0_1 x29_1)).toNat * 4)).block, (ad156.add (((rd l0_1 x29_1)).toNat * 4)).off + 3, none⟩ = some (.int .i64 ((rd_T37 l1 (rd l0_1 x29_1)).f3)) := fun v_ => (((below_set HB.out GE148.out).cell (World.block_lt_of_cell? w _ hw156_3)).trans hw156_3)
       have hq8_ : ∀ v_ : Value, (World.setCell w35 ⟨gb148, 0, none⟩ v_).cell? (ad156.add (((rd l0_1 x29_1)).toNat * 4)) = some (.int .i64 ((rd_T37 l1 (rd l0_1 x29_1)).f0)) := fun v_ => (((below_set HB.out GE148.out).cell (World.block_lt_of_cell? w _ hw157_0)).trans hw157_0)
       have hq9_ : ∀ v_ : Value, (World.setCell w35 ⟨gb148, 0, none⟩ v_).cell? ⟨(ad156.add (((rd l0_1 x29_1)).toNat * 4)).block, (ad156.add (((rd l0_1 x29_1)).toNat * 4)).off + 1, none⟩ = some (.int .i64 ((rd_T37 l1 (rd l0_1 x29_1)).f1)) := fun v_ => (((below_set HB.out GE148.out).cell (World.block_lt_of_cell? w _ hw157_1)).trans hw157_1)
       have hq10_ : ∀ v_ : Value, (World.setCell w35 ⟨gb148, 0, none⟩ v_).cell? ⟨(ad156.add (((rd l0_1 x29_1)).toNat * 4)).block, (ad156.add (((rd l0_1 x29_1)).toNat * 4)).off + 2, none⟩ = some (.int .i64 ((rd_T37 l1 (rd l0_1 x29_1)).f2)) := fun v_ => (((below_set HB.out GE148.out).cell (World.block_lt_of_cell? w _ hw157_2)).trans hw157_2)
       have hq11_ : ∀ v_ : Value, (World.setCell w35 ⟨gb148, 0, none⟩ v_).cell? ⟨(ad156.add (((rd l0_1 x29_1)).toNat * 4)).block, (ad156.add (((rd l0_1 x29_1)).toNat * 4)).off + 3, none⟩ = some (.int .i64 ((rd_T37 l1 (rd l0_1 x29_1)).f3)) := fun v_ => (((below_set HB.out GE148.out).cell (World.block_lt_of_cell? w _ hw157_3)).trans hw157_3)
       refine oneK_ (i := 14) (N := some 47) #[J,J,J,J,J,J,J,J,J,J,J,J,J,J,J,O,J,J,O,O] rfl rfl (by kernel_rfl) (fun K hK => ?_)
       refine value_ (w1 := ?_) (v := ?_) (by rfl) rfl ?_ ?_
       rotate_left 2
       ·
        go_simp
        constructor
        ·
         rfl
        ·
         rfl
       refine hK.out _ _ (fun h_ => h_) ?_
       clear hK K
       refine norm_ (a' := ?_) ?_ ?_
       rotate_left
       ·
        show Act.put _ (some 47) _ = _
        simp only [Act.put, List.setIfInBounds_toArray, List.set_cons_zero, List.set_cons_succ, i64_w, i32_w]
        rfl
       refine pureA 15 48 #[J,J,J,J,J,J,J,J,J,J,J,J,J,J,J,J,J,J,O,O] ?_
       exact norm_ (by rfl) hCont
     refine norm_ (a' := ?_) ?_ ?_
     rotate_left
     ·
      simp only [putAll, Act.put, List.setIfInBounds_toArray, List.set_cons_zero, List.set_cons_succ]
      rfl
     refine pureA 18 50 #[J,J,J,J,J,J,J,J,J,J,J,J,J,J,J,J,J,J,J,O] ?_
     refine last_ (i := 19) (N := none) #[J,J,J,J,J,J,J,J,J,J,J,J,J,J,J,J,J,J,J,J] rfl rfl (one_of HT_.out (by kernel_rfl)) (by decide) (fun K hK => ?_)
     have hs37 : w35.cell? ⟨gb148, 1, none⟩ = some (.int .i64 x149001_1) := (blk_cell BK148.out 1).trans rfl
     have hfs37 := blk_frozen BK148.out 1
     have hns37_0 := NB143_148.out
     have hns37_1 := NB144_148.out
     have hns37_2 := NB145_148.out
     have hns37_4 := NB154_148.out
     have hms37_0 := NB148_143.out
     have hms37_1 := NB148_144.out
     have hms37_2 := NB148_145.out
     have hms37_4 := NB148_154.out
     refine skip_ (w1 := ?_) (by rfl) rfl ?_ ?_
     rotate_left
     ·
      go_simp
      rfl
     refine hK.out _ _ ?_
     clear hK K
     refine done_ (done_of HT_.out (by kernel_rfl)) ?_
     have p158 : 0 ≤ ((rd l0_1 x29_1) : Int) := odA
     have q158 : (rd l0_1 x29_1) < (l1.length : Int) := odA
     obtain ⟨ad158, e158, hx158_0, hx158_1, hx158_2, hx158_3⟩ := at_T37 HR1.out (rd l0_1 x29_1) p158 q158
     obtain rfl : ad156 = ad158 := (by injection e158)
     have hn158_0 : ad156.block ≠ gb148 := Nat.ne_of_lt (Nat.lt_of_lt_of_le (by have := World.block_lt_of_cell? _ _ hx158_0; first | rwa [add_block] at this | exact this) GW148.out)
     have hn158_1 : ad156.block ≠ gb148 := Nat.ne_of_lt (Nat.lt_of_lt_of_le (by have := World.block_lt_of_cell? _ _ hx158_0; first | rwa [add_block] at this | exact this) GW148.out)
     replace hx158_0 := pw_cell_below HB.out hx158_0
     replace hx158_1 := pw_cell_below HB.out hx158_1
     replace hx158_2 := pw_cell_below HB.out hx158_2
     replace hx158_3 := pw_cell_below HB.out hx158_3
     replace hx158_0 := (cell_far (p := ⟨gb148, 0, none⟩) (by first | exact far_add hn158_0 | exact hn158_0) (.int .i64 ji29)).trans hx158_0
     replace hx158_1 := (cell_far (p := ⟨gb148, 0, none⟩) (by first | exact far_add hn158_0 | exact hn158_0) (.int .i64 ji29)).trans hx158_1
     replace hx158_2 := (cell_far (p := ⟨gb148, 0, none⟩) (by first | exact far_add hn158_0 | exact hn158_0) (.int .i64 ji29)).trans hx158_2
     replace hx158_3 := (cell_far (p := ⟨gb148, 0, none⟩) (by first | exact far_add hn158_0 | exact hn158_0) (.int .i64 ji29)).trans hx158_3
     replace hx158_0 := (cell_far (p := ⟨gb148, 1, none⟩) (by first | exact far_add hn158_1 | exact hn158_1) (.int .i64 ji30)).trans hx158_0
     replace hx158_1 := (cell_far (p := ⟨gb148, 1, none⟩) (by first | exact far_add hn158_1 | exact hn158_1) (.int .i64 ji30)).trans hx158_1
     replace hx158_2 := (cell_far (p := ⟨gb148, 1, none⟩) (by first | exact far_add hn158_1 | exact hn158_1) (.int .i64 ji30)).trans hx158_2
     replace hx158_3 := (cell_far (p := ⟨gb148, 1, none⟩) (by first | exact far_add hn158_1 | exact hn158_1) (.int .i64 ji30)).trans hx158_3
     clear hn158_0
     clear hn158_1
     replace p158 := eq_true p158
     replace q158 := eq_true q158
     try go_wp2_with (first | ((with_reducible refine gate_builtin (b := .append) (xs := #[.tmp 51, .tmp 57]) rfl ?_); at_builtin; refine Kd.R_append (Kd.int .i64) (w0 := w) w.heap.size rfl (.tmp 51) (.tmp 57) 38 3 (.int .i64 0) 8 rfl Try.underlying38 info3 rfl (by decide) (by omega) u10 x10_1 ((rd_T37 l1 (rd l0_1 x29_1)).f2) [.int .i64 ((rd_T37 l1 (rd l0_1 x29_1)).f2)] (fun _ => True) (fun _ => False) rfl (by first | (go_simp; done) | (go_simp; rfl)) ?aP (fun _ hk => hk.elim) ?aF ?aO ?aB ?aS ?aL ?_; (case aP => exact rfl); (case aB => exact belowA); (case aF => exact (fun _ _ => trivial)); (case aO => exact (by (with_reducible repeat (first | apply Kd.R_alloc | apply Kd.R_drewN | apply Kd.R_drew)); exact Kd.R_mono (Kd.R_far (p := ⟨gb148, 1, none⟩) (Kd.R_far (p := ⟨gb148, 0, none⟩) (Kd.R_types HO_10.out BK148.out (by decide)) (fun _ hk => hk.2) (.int .i64 ji29)) (fun _ hk => hk.2) (.int .i64 ji30)) (fun _ hk => trivial))); (case aS => exact below_sizeA); (case aL => have := LMc31.out; omega); intro v160 w38 ho hb hg hat; rw [← Ny159.out] at ho; have n0_ := Aside0.mk (blk_grown (g := gb143) (o := .cells (B44 a0_0 (some ad155) l0_1 c0_1 a0_2 a0_3 A0_4 l0_4 c0_4 a0_5 a0_6 a0_7 A0_8 l0_8 c0_8 A0_9 l0_9 c0_9 a0_10 a0_11 a0_12 A0_13 l0_13 c0_13 A0_14 l0_14 c0_14 A0_15 l0_15 c0_15) 44 (0, 0)) (blk_move BK143.out) hg (Kd.R_ne HO_10.out BK143.out (by decide))); have n1_ := Aside0.mk (blk_grown (g := gb144) (o := .cells #[.int .i64 a2_0, .int .i64 a2_1, .int .i64 a2_2, .int .i64 a2_3, .int .i64 a2_4, .int .i64 a2_5] 27 (0, 0)) (blk_move BK144.out) hg (Kd.R_ne HO_10.out BK144.out (by decide))); have n2_ := Aside0.mk (blk_grown (g := gb145) (o := .cells #[.int .i64 0, .int .i64 0, .int .i64 0, .int .i64 0] 37 (0, 0)) (blk_move BK145.out) hg (Kd.R_ne HO_10.out BK145.out (by decide))); have n3_ := Aside0.mk (blk_grown (g := gb148) (o := .cells #[.int .i64 ji29, .int .i64 ji30, .int .i64 0, .int .i64 x149003_1] 37 (0, 0)) (blk_move BK148.out) hg (Kd.R_ne HO_10.out BK148.out (by decide))); have n4_ := Aside0.mk (blk_grown (g := gb154) (o := .cells #[.int .i64 t149, fnV t150, fnV t151, .bool true] 65 (0, 0)) (blk_move BK154.out) hg (Kd.R_ne HO_10.out BK154.out (by decide))); have n5_ := Aside0.mk (hb); have n6_ := Aside0.mk (ho); clear BK143; clear BK144; clear BK145; clear BK148; clear BK154; clear HB; clear HO_10; have BK143 := n0_; have BK144 := n1_; have BK145 := n2_; have BK148 := n3_; have BK154 := n4_; have HB := n5_; have HO161 := n6_; clear n0_ n1_ n2_ n3_ n4_ n5_ n6_; clear ho hb hg hat; have hnb39 := NB154_143.out; have hnc39 := NB143_154.out; have hnb40 := NB154_144.out; have hnc40 := NB144_154.out; have hnb41 := NB154_145.out; have hnc41 := NB145_154.out; have hnb42 := NB154_148.out; have hnc42 := NB148_154.out; have hz43 := blk4 BK154.out))
     have n0_ := Aside0.mk (Kd.R_drew HO161.out)
     have n1_ := Aside0.mk (blk_drew BK143.out)
     have n2_ := Aside0.mk (blk_drew BK144.out)
     have n3_ := Aside0.mk (blk_drew BK145.out)
     have n4_ := Aside0.mk (blk_drew BK148.out)
     have n5_ := Aside0.mk (blk_drew BK154.out)
     have n6_ := Aside0.mk (below_drew1 HB.out)
     clear HO161
     clear BK143
     clear BK144
     clear BK145
     clear BK148
     clear BK154
     clear HB
     have HO161 := n0_
     have BK143 := n1_
     have BK144 := n2_
     have BK145 := n3_
     have BK148 := n4_
     have BK154 := n5_
     have HB := n6_
     clear n0_ n1_ n2_ n3_ n4_ n5_ n6_
     have p162 : 0 ≤ ((rd l0_1 x29_1) : Int) := odA
     have q162 : (rd l0_1 x29_1) < (l1.length : Int) := odA
     obtain ⟨ad162, e162, hx162_0, hx162_1, hx162_2, hx162_3⟩ := at_T37 HR1.out (rd l0_1 x29_1) p162 q162
     have hw162_3 := hx162_3
     have hw162_2 := hx162_2
     have hw162_1 := hx162_1
     have hw162_0 := hx162_0
     obtain rfl : ad156 = ad162 := (by injection e162)
     replace hx162_0 := pw_cell_below HB.out hx162_0
     replace hx162_1 := pw_cell_below HB.out hx162_1
     replace hx162_2 := pw_cell_below HB.out hx162_2
     replace hx162_3 := pw_cell_below HB.out hx162_3
     replace p162 := eq_true p162
     replace q162 := eq_true q162
     have p163 : 0 ≤ ((rd l0_1 x29_1) : Int) := odA
     have q163 : (rd l0_1 x29_1) < (l1.length : Int) := odA
     obtain ⟨ad163, e163, hx163_0, hx163_1, hx163_2, hx163_3⟩ := at_T37 HR1.out (rd l0_1 x29_1) p163 q163
     have hw163_3 := hx163_3
     have hw163_2 := hx163_2
     have hw163_1 := hx163_1
     have hw163_0 := hx163_0
     obtain rfl : ad156 = ad163 := (by injection e163)
     replace hx163_0 := pw_cell_below HB.out hx163_0
     replace hx163_1 := pw_cell_below HB.out hx163_1
     replace hx163_2 := pw_cell_below HB.out hx163_2
     replace hx163_3 := pw_cell_below HB.out hx163_3
     replace p163 := eq_true p163
     replace q163 := eq_true q163
     refine start_ (n := 21) (S := fun w' => w'.cell? ⟨gb148, 0, none⟩ = some (.int .i64 ji29) ∧ w'.cell? ⟨gb148, 1, none⟩ = some (.int .i64 ji30) ∧ w'.cell? ⟨gb148, 2, none⟩ = some (.int .i64 0) ∧ w'.cell? ⟨gb148, 3, none⟩ = some (.int .i64 x149003_1) ∧ w'.cell? ⟨gb144, 0, none⟩ = some (.int .i64 a2_0) ∧ w'.cell? ⟨gb144, 1, none⟩ = some (.int .i64 a2_1) ∧ w'.cell? ⟨gb144, 2, none⟩ = some (.int .i64 a2_2) ∧ w'.cell? ⟨gb144, 3, none⟩ = some (.int .i64 a2_3) ∧ w'.cell? ⟨gb144, 4, none⟩ = some (.int .i64 a2_4) ∧ w'.cell? ⟨gb144, 5, none⟩ = some (.int .i64 a2_5) ∧ w'.cell? (ad156.add (((rd l0_1 x29_1)).toNat * 4)) = some (.int .i64 ((rd_T37 l1 (rd l0_1 x29_1)).f0)) ∧ w'.cell? ⟨(ad156.add (((rd l0_1 x29_1)).toNat * 4)).block, (ad156.add (((rd l0_1 x29_1)).toNat * 4)).off + 1, none⟩ = some (.int .i64 ((rd_T37 l1 (rd l0_1 x29_1)).f1)) ∧ w'.cell? ⟨(ad156.add (((rd l0_1 x29_1)).toNat * 4)).block, (ad156.add (((rd l0_1 x29_1)).toNat * 4)).off + 2, none⟩ = some (.int .i64 ((rd_T37 l1 (rd l0_1 x29_1)).f2)) ∧ w'.cell? ⟨(ad156.add (((rd l0_1 x29_1)).toNat * 4)).block, (ad156.add (((rd l0_1 x29_1)).toNat * 4)).off + 3, none⟩ = some (.int .i64 ((rd_T37 l1 (rd l0_1 x29_1)).f3)) ∧ w'.cell? (ad156.add (((rd l0_1 x29_1)).toNat * 4)) = some (.int .i64 ((rd_T37 l1 (rd l0_1 x29_1)).f0)) ∧ w'.cell? ⟨(ad156.add (((rd l0_1 x29_1)).toNat * 4)).block, (ad156.add (((rd l0_1 x29_1)).toNat * 4)).off + 1, none⟩ = some (.int .i64 ((rd_T37 l1 (rd l0_1 x29_1)).f1)) ∧ w'.cell? ⟨(ad156.add (((rd l0_1 x29_1)).toNat * 4)).block, (ad156.add (((rd l0_1 x29_1)).toNat * 4)).off + 2, none⟩ = some (.int .i64 ((rd_T37 l1 (rd l0_1 x29_1)).f2)) ∧ w'.cell? ⟨(ad156.add (((rd l0_1 x29_1)).toNat * 4)).block, (ad156.add (((rd l0_1 x29_1)).toNat * 4)).off + 3, none⟩ = some (.int .i64 ((rd_T37 l1 (rd l0_1 x29_1)).f3))) (ds := [20]) #[O,O,O,O,O,O,O,O,O,O,O,O,O,O,O,O,O,O,O,O,O] (by kernel_rfl) rfl rfl ⟨(blk_cell BK148.out 0).trans rfl, (blk_cell BK148.out 1).trans rfl, (blk_cell BK148.out 2).trans rfl, (blk_cell BK148.out 3).trans rfl, (blk_cell BK144.out 0).trans rfl, (blk_cell BK144.out 1).trans rfl, (blk_cell BK144.out 2).trans rfl, (blk_cell BK144.out 3).trans rfl, (blk_cell BK144.out 4).trans rfl, (blk_cell BK144.out 5).trans rfl, (pw_cell_below HB.out hw162_0), (pw_cell_below HB.out hw162_1), (pw_cell_below HB.out hw162_2), (pw_cell_below HB.out hw162_3), (pw_cell_below HB.out hw163_0), (pw_cell_below HB.out hw163_1), (pw_cell_below HB.out hw163_2), (pw_cell_below HB.out hw163_3)⟩ (fun hHeld => ?_); refine with_tabW bounds_bound.tab11 bounds_bound.bits11 (fun HT_ HW_ => ?_)
     generalize w38.drew = w44 at HO161 BK143 BK144 BK145 BK148 BK154 HB hx162_0 hx162_1 hx162_2 hx162_3 hx163_0 hx163_1 hx163_2 hx163_3 hHeld ⊢
     refine pureA 0 61 #[J,O,O,O,O,O,O,O,O,O,O,O,O,O,O,O,O,O,O,O,O] ?_
     refine pureA 2 63 #[J,O,J,O,O,O,O,O,O,O,O,O,O,O,O,O,O,O,O,O,O] ?_
     refine pureA 3 64 #[J,O,J,J,O,O,O,O,O,O,O,O,O,O,O,O,O,O,O,O,O] ?_
     refine pureA 4 65 #[J,O,J,J,J,O,O,O,O,O,O,O,O,O,O,O,O,O,O,O,O] ?_
     refine pureA 5 66 #[J,O,J,J,J,J,O,O,O,O,O,O,O,O,O,O,O,O,O,O,O] ?_
     refine pureA 7 68 #[J,O,J,J,J,J,O,J,O,O,O,O,O,O,O,O,O,O,O,O,O] ?_
     refine pureA 9 70 #[J,O,J,J,J,J,O,J,O,J,O,O,O,O,O,O,O,O,O,O,O] ?_
     refine pureA 10 71 #[J,O,J,J,J,J,O,J,O,J,J,O,O,O,O,O,O,O,O,O,O] ?_
     refine pureA 11 72 #[J,O,J,J,J,J,O,J,O,J,J,J,O,O,O,O,O,O,O,O,O] ?_
     refine pureA 12 73 #[J,O,J,J,J,J,O,J,O,J,J,J,J,O,O,O,O,O,O,O,O] ?_
     refine pureA 15 76 #[J,O,J,J,J,J,O,J,O,J,J,J,J,O,O,J,O,O,O,O,O] ?_
     refine takeA 1 62 #[J,J,J,J,J,J,O,J,O,J,J,J,J,O,O,J,O,O,O,O,O] ?_
     refine takeA 6 67 #[J,J,J,J,J,J,J,J,O,J,J,J,J,O,O,J,O,O,O,O,O] ?_
     refine takeA 8 69 #[J,J,J,J,J,J,J,J,J,J,J,J,J,O,O,J,O,O,O,O,O] ?_
     refine takeA 13 74 #[J,J,J,J,J,J,J,J,J,J,J,J,J,J,O,J,O,O,O,O,O] ?_
     refine pureA 14 75 #[J,J,J,J,J,J,J,J,J,J,J,J,J,J,J,J,O,O,O,O,O] ?_
     refine pureA 16 77 #[J,J,J,J,J,J,J,J,J,J,J,J,J,J,J,J,J,O,O,O,O] ?_
     refine one_ (i := 17) (N := some 78) #[J,J,J,J,J,J,J,J,J,J,J,J,J,J,J,J,J,J,O,O,O] rfl rfl (one_of HT_.out (by kernel_rfl)) (by decide) (fun K hK => ?_)
     refine goes_ Try.func35 (by kernel_rfl) rfl #[.int .i64 ((rd_T37 l1 (rd l0_1 x29_1)).f2), .int .i64 (wrap64 ((wrap64 (a2_5 + ((rd_T37 l1 (rd l0_1 x29_1)).f1))) + t146))] (by rfl) rfl rfl mapA ?_
     with_reducible refine (bounds_times.calls _ (wrap64 ((wrap64 (a2_5 + ((rd_T37 l1 (rd l0_1 x29_1)).f1))) + t146)) t164 _ A33.out).mono ?_
     rintro e w' ⟨rfl, ⟨nd, rfl⟩⟩
     refine ⟨_, rfl, ?_⟩
     refine hK.out _ _ ⟨(blk_cell BK148.out 0).trans rfl, (blk_cell BK148.out 1).trans rfl, (blk_cell BK148.out 2).trans rfl, (blk_cell BK148.out 3).trans rfl, (blk_cell BK144.out 0).trans rfl, (blk_cell BK144.out 1).trans rfl, (blk_cell BK144.out 2).trans rfl, (blk_cell BK144.out 3).trans rfl, (blk_cell BK144.out 4).trans rfl, (blk_cell BK144.out 5).trans rfl, (pw_cell_below HB.out hw162_0), (pw_cell_below HB.out hw162_1), (pw_cell_below HB.out hw162_2), (pw_cell_below HB.out hw162_3), (pw_cell_below HB.out hw163_0), (pw_cell_below HB.out hw163_1), (pw_cell_below HB.out hw163_2), (pw_cell_below HB.out hw163_3)⟩ (fun hHeld => ?_)
     clear hK K
     refine norm_ (a' := ?_) ?_ ?_
     rotate_left
     ·
      show Act.put _ (some 78) _ = _
      simp only [Act.put, List.setIfInBounds_toArray, List.set_cons_zero, List.set_cons_succ, i64_w, i32_w]
      rfl
     refine one_ (i := 18) (N := some 79) #[J,J,J,J,J,J,J,J,J,J,J,J,J,J,J,J,J,J,J,O,O] rfl rfl (one_of HT_.out (by kernel_rfl)) (by decide) (fun K hK => ?_)
     refine goes_ Try.func32 (by kernel_rfl) rfl #[.int .i64 x149003_1, .int .i64 t164] (by rfl) rfl rfl mapA ?_
     with_reducible refine (bounds_plus.calls x149003_1 t164 t165 _ A34.out).mono ?_
     rintro e w45 ⟨rfl, hb⟩
     refine ⟨_, rfl, ?_⟩
     have n0_ := Aside0.mk (Kd.R_below (by (with_reducible repeat (first | apply Kd.R_alloc | apply Kd.R_drewN | apply Kd.R_drew)); exact HO161.out) hb)
     have n1_ := Aside0.mk (blk_keepA BK143.out hb)
     have n2_ := Aside0.mk (blk_keepA BK144.out hb)
     have n3_ := Aside0.mk (blk_keepA BK145.out hb)
     have n4_ := Aside0.mk (blk_keepA BK148.out hb)
     have n5_ := Aside0.mk (blk_keepA BK154.out hb)
     have n6_ := Aside0.mk (below_stepA hb)
     clear HO161
     clear BK143
     clear BK144
     clear BK145
     clear BK148
     clear BK154
     clear HB
     have HO161 := n0_
     have BK143 := n1_
     have BK144 := n2_
     have BK145 := n3_
     have BK148 := n4_
     have BK154 := n5_
     have HB := n6_
     clear n0_ n1_ n2_ n3_ n4_ n5_ n6_
     (try clear hb)
     (try clear hb2)
     (try clear hk)
     (try clear hi)
     refine hK.out _ _ ⟨(blk_cell BK148.out 0).trans rfl, (blk_cell BK148.out 1).trans rfl, (blk_cell BK148.out 2).trans rfl, (blk_cell BK148.out 3).trans rfl, (blk_cell BK144.out 0).trans rfl, (blk_cell BK144.out 1).trans rfl, (blk_cell BK144.out 2).trans rfl, (blk_cell BK144.out 3).trans rfl, (blk_cell BK144.out 4).trans rfl, (blk_cell BK144.out 5).trans rfl, (pw_cell_below HB.out hw162_0), (pw_cell_below HB.out hw162_1), (pw_cell_below HB.out hw162_2), (pw_cell_below HB.out hw162_3), (pw_cell_below HB.out hw163_0), (pw_cell_below HB.out hw163_1), (pw_cell_below HB.out hw163_2), (pw_cell_below HB.out hw163_3)⟩ (fun hHeld => ?_)
     clear hK K
     refine norm_ (a' := ?_) ?_ ?_
     rotate_left
     ·
      show Act.put _ (some 79) _ = _
      simp only [Act.put, List.setIfInBounds_toArray, List.set_cons_zero, List.set_cons_succ, i64_w, i32_w]
      rfl
     refine pureA 19 80 #[J,J,J,J,J,J,J,J,J,J,J,J,J,J,J,J,J,J,J,J,O] ?_
     refine last_ (i := 20) (N := none) #[J,J,J,J,J,J,J,J,J,J,J,J,J,J,J,J,J,J,J,J,J] rfl rfl (one_of HT_.out (by kernel_rfl)) (by decide) (fun K hK => ?_)
     have hs46 : w45.cell? ⟨gb148, 3, none⟩ = some (.int .i64 x149003_1) := (blk_cell BK148.out 3).trans rfl
     have hfs46 := blk_frozen BK148.out 3
     have hns46_0 := NB143_148.out
     have hns46_1 := NB144_148.out
     have hns46_2 := NB145_148.out
     have hns46_4 := NB154_148.out
     have hms46_0 := NB148_143.out
     have hms46_1 := NB148_144.out
     have hms46_2 := NB148_145.out
     have hms46_4 := NB148_154.out
     refine skip_ (w1 := ?_) (by rfl) rfl ?_ ?_
     rotate_left
     ·
      go_simp
      rfl
     refine hK.out _ _ ?_
     clear hK K
     refine done_ (done_of HT_.out (by kernel_rfl)) ?_
     try go_wp2
     go_roundg k1
     case measure => have := HK1.out; omega
     case rel => exact ⟨(y159), (wrap64 (x29_1 + 1)), (ji29), (ji30), (t165), (by first | rfl | (simp; done) | (simp [*]; done)), H', ⟨by have := HK1.out; omega⟩, ⟨by (with_reducible repeat (first | apply Kd.R_alloc | apply Kd.R_drewN | apply Kd.R_drew)); exact Kd.R_mono (Kd.R_far (p := ⟨gb148, 3, none⟩) (Kd.R_types HO161.out BK148.out (by decide)) (fun _ hk => hk.2) (.int .i64 t165)) (fun _ hk => trivial)⟩, ⟨blk_move BK143.out⟩, ⟨blk_move BK144.out⟩, ⟨blk_move BK145.out⟩, ⟨blk_move BK148.out⟩, ⟨blk_move BK154.out⟩, ⟨by repeat (first | (with_reducible first | exact HB.out | apply below_alloc | apply pw_below_drewN | apply below_drew1 | refine below_set ?_ GE143.out | refine below_set ?_ GE144.out | refine below_set ?_ GE145.out | refine below_set ?_ GE148.out | refine below_set ?_ GE154.out) | exact HB.out)⟩⟩
    ·
     replace c32 := Bool.eq_false_iff.mpr c32
     subst c32
     rw [if_neg (show ¬ (false = true) by decide)] at H
     have H' := Aside0.mk H
     clear H
     have p155 : 0 ≤ (x29_1 : Int) := odA
     have q155 : x29_1 < (l0_1.length : Int) := odA
     obtain ⟨ad155, e155, hx155_0⟩ := Kd.at_int HR0_1.out x29_1 p155 q155
     cases e155
     replace hx155_0 := pw_cell_below HB.out hx155_0
     replace p155 := eq_true p155
     replace q155 := eq_true q155
     try go_wp2
     have n0_ := Aside0.mk (Kd.R_drew HO_10.out)
     have n1_ := Aside0.mk (blk_drew BK143.out)
     have n2_ := Aside0.mk (blk_drew BK144.out)
     have n3_ := Aside0.mk (blk_drew BK145.out)
     have n4_ := Aside0.mk (blk_drew BK148.out)
     have n5_ := Aside0.mk (blk_drew BK154.out)
     have n6_ := Aside0.mk (below_drew1 HB.out)
     clear HO_10
     clear BK143
     clear BK144
     clear BK145
     clear BK148
     clear BK154
     clear HB
     have HO_10 := n0_
     have BK143 := n1_
     have BK144 := n2_
     have BK145 := n3_
     have BK148 := n4_
     have BK154 := n5_
     have HB := n6_
     clear n0_ n1_ n2_ n3_ n4_ n5_ n6_
     have p156 : 0 ≤ ((rd l0_1 x29_1) : Int) := odA
     have q156 : (rd l0_1 x29_1) < (l1.length : Int) := odA
     obtain ⟨ad156, e156, hx156_0, hx156_1, hx156_2, hx156_3⟩ := at_T37 HR1.out (rd l0_1 x29_1) p156 q156
     have hw156_3 := hx156_3
     have hw156_2 := hx156_2
     have hw156_1 := hx156_1
     have hw156_0 := hx156_0
     cases e156
     replace hx156_0 := pw_cell_below HB.out hx156_0
     replace hx156_1 := pw_cell_below HB.out hx156_1
     replace hx156_2 := pw_cell_below HB.out hx156_2
     replace hx156_3 := pw_cell_below HB.out hx156_3
     replace p156 := eq_true p156
     replace q156 := eq_true q156
     have p157 : 0 ≤ ((rd l0_1 x29_1) : Int) := odA
     have q157 : (rd l0_1 x29_1) < (l1.length : Int) := odA
     obtain ⟨ad157, e157, hx157_0, hx157_1, hx157_2, hx157_3⟩ := at_T37 HR1.out (rd l0_1 x29_1) p157 q157
     have hw157_3 := hx157_3
     have hw157_2 := hx157_2
     have hw157_1 := hx157_1
     have hw157_0 := hx157_0
     obtain rfl : ad156 = ad157 := (by injection e157)
     replace hx157_0 := pw_cell_below HB.out hx157_0
     replace hx157_1 := pw_cell_below HB.out hx157_1
     replace hx157_2 := pw_cell_below HB.out hx157_2
     replace hx157_3 := pw_cell_below HB.out hx157_3
     replace p157 := eq_true p157
     replace q157 := eq_true q157
     refine start_ (n := 20) (S := fun w' => w'.cell? ⟨gb148, 0, none⟩ = some (.int .i64 x149000_1) ∧ w'.cell? ⟨gb148, 1, none⟩ = some (.int .i64 x149001_1) ∧ w'.cell? ⟨gb148, 2, none⟩ = some (.int .i64 0) ∧ w'.cell? ⟨gb148, 3, none⟩ = some (.int .i64 x149003_1) ∧ w'.cell? (ad156.add (((rd l0_1 x29_1)).toNat * 4)) = some (.int .i64 ((rd_T37 l1 (rd l0_1 x29_1)).f0)) ∧ w'.cell? ⟨(ad156.add (((rd l0_1 x29_1)).toNat * 4)).block, (ad156.add (((rd l0_1 x29_1)).toNat * 4)).off + 1, none⟩ = some (.int .i64 ((rd_T37 l1 (rd l0_1 x29_1)).f1)) ∧ w'.cell? ⟨(ad156.add (((rd l0_1 x29_1)).toNat * 4)).block, (ad156.add (((rd l0_1 x29_1)).toNat * 4)).off + 2, none⟩ = some (.int .i64 ((rd_T37 l1 (rd l0_1 x29_1)).f2)) ∧ w'.cell? ⟨(ad156.add (((rd l0_1 x29_1)).toNat * 4)).block, (ad156.add (((rd l0_1 x29_1)).toNat * 4)).off + 3, none⟩ = some (.int .i64 ((rd_T37 l1 (rd l0_1 x29_1)).f3)) ∧ w'.cell? (ad156.add (((rd l0_1 x29_1)).toNat * 4)) = some (.int .i64 ((rd_T37 l1 (rd l0_1 x29_1)).f0)) ∧ w'.cell? ⟨(ad156.add (((rd l0_1 x29_1)).toNat * 4)).block, (ad156.add (((rd l0_1 x29_1)).toNat * 4)).off + 1, none⟩ = some (.int .i64 ((rd_T37 l1 (rd l0_1 x29_1)).f1)) ∧ w'.cell? ⟨(ad156.add (((rd l0_1 x29_1)).toNat * 4)).block, (ad156.add (((rd l0_1 x29_1)).toNat * 4)).off + 2, none⟩ = some (.int .i64 ((rd_T37 l1 (rd l0_1 x29_1)).f2)) ∧ w'.cell? ⟨(ad156.add (((rd l0_1 x29_1)).toNat * 4)).block, (ad156.add (((rd l0_1 x29_1)).toNat * 4)).off + 3, none⟩ = some (.int .i64 ((rd_T37 l1 (rd l0_1 x29_1)).f3))) (ds := [17, 19]) #[O,O,O,O,O,O,O,O,O,O,O,O,O,O,O,O,O,O,O,O] (by kernel_rfl) rfl rfl ⟨(blk_cell BK148.out 0).trans rfl, (blk_cell BK148.out 1).trans rfl, (blk_cell BK148.out 2).trans rfl, (blk_cell BK148.out 3).trans rfl, (pw_cell_below HB.out hw156_0), (pw_cell_below HB.out hw156_1), (pw_cell_below HB.out hw156_2), (pw_cell_below HB.out hw156_3), (pw_cell_below HB.out hw157_0), (pw_cell_below HB.out hw157_1), (pw_cell_below HB.out hw157_2), (pw_cell_below HB.out hw157_3)⟩ (fun hHeld => ?_); refine with_tabW bounds_bound.tab8 bounds_bound.bits8 (fun HT_ HW_ => ?_)
     generalize wr.drew = w47 at HO_10 BK143 BK144 BK145 BK148 BK154 HB hx156_0 hx156_1 hx156_2 hx156_3 hx157_0 hx157_1 hx157_2 hx157_3 hHeld ⊢
     refine pureA 0 33 #[J,O,O,O,O,O,O,O,O,O,O,O,O,O,O,O,O,O,O,O] ?_
     refine pureA 2 35 #[J,O,J,O,O,O,O,O,O,O,O,O,O,O,O,O,O,O,O,O] ?_
     refine pureA 3 36 #[J,O,J,J,O,O,O,O,O,O,O,O,O,O,O,O,O,O,O,O] ?_
     refine pureA 4 37 #[J,O,J,J,J,O,O,O,O,O,O,O,O,O,O,O,O,O,O,O] ?_
     refine pureA 5 38 #[J,O,J,J,J,J,O,O,O,O,O,O,O,O,O,O,O,O,O,O] ?_
     refine pureA 8 41 #[J,O,J,J,J,J,O,O,J,O,O,O,O,O,O,O,O,O,O,O] ?_
     refine pureA 10 43 #[J,O,J,J,J,J,O,O,J,O,J,O,O,O,O,O,O,O,O,O] ?_
     refine pureA 11 44 #[J,O,J,J,J,J,O,O,J,O,J,J,O,O,O,O,O,O,O,O] ?_
     refine pureA 12 45 #[J,O,J,J,J,J,O,O,J,O,J,J,J,O,O,O,O,O,O,O] ?_
     refine pureA 13 46 #[J,O,J,J,J,J,O,O,J,O,J,J,J,J,O,O,O,O,O,O] ?_
     refine takeA 1 34 #[J,J,J,J,J,J,O,O,J,O,J,J,J,J,O,O,O,O,O,O] ?_
     refine takeA 6 39 #[J,J,J,J,J,J,J,O,J,O,J,J,J,J,O,O,O,O,O,O] ?_
     refine pureA 7 40 #[J,J,J,J,J,J,J,J,J,O,J,J,J,J,O,O,O,O,O,O] ?_
     refine takeA 9 42 #[J,J,J,J,J,J,J,J,J,J,J,J,J,J,O,O,O,O,O,O] ?_
     refine pureA 16 49 #[J,J,J,J,J,J,J,J,J,J,J,J,J,J,O,O,J,O,O,O] ?_
     apply joinE2_ 2 #[J,J,J,J,J,J,J,J,J,J,J,J,J,J,J,J,J,J,O,O] 47 48
     case hmain =>
      intro hCont
      refine twoKL_ (i := 14) (j := 17) (Ni := some 47) (Nj := none) #[J,J,J,J,J,J,J,J,J,J,J,J,J,J,J,O,J,O,O,O] #[J,J,J,J,J,J,J,J,J,J,J,J,J,J,O,O,J,J,O,O] rfl rfl rfl rfl (by kernel_rfl) (by decide) (by decide) (fun K hK => ?_) (fun K hK => ?_)
      ·
       skip
       refine value_ (w1 := ?_) (v := ?_) (by rfl) rfl ?_ ?_
       rotate_left 2
       ·
        go_simp
        constructor
        ·
         rfl
        ·
         rfl
       refine hK.out _ _ (fun h_ => h_) ?_
       clear hK K
       refine norm_ (a' := ?_) ?_ ?_
       rotate_left
       ·
        show Act.put _ (some 47) _ = _
        simp only [Act.put, List.setIfInBounds_toArray, List.set_cons_zero, List.set_cons_succ, i64_w, i32_w]
        rfl
       refine pureA 15 48 #[J,J,J,J,J,J,J,J,J,J,J,J,J,J,J,J,J,O,O,O] ?_
       refine last_ (i := 17) (N := none) #[J,J,J,J,J,J,J,J,J,J,J,J,J,J,J,J,J,J,O,O] rfl rfl (one_of HT_.out (by kernel_rfl)) (by decide) (fun K hK => ?_)
       have hs48 : w47.cell? ⟨gb148, 0, none⟩ = some (.int .i64 x149000_1) := (blk_cell BK148.out 0).trans rfl
       have hfs48 := blk_frozen BK148.out 0
       have hns48_0 := NB143_148.out
       have hns48_1 := NB144_148.out
       have hns48_2 := NB145_148.out
       have hns48_4 := NB154_148.out
       have hms48_0 := NB148_143.out
       have hms48_1 := NB148_144.out
       have hms48_2 := NB148_145.out
       have hms48_4 := NB148_154.out
       refine skip_ (w1 := ?_) (by rfl) rfl ?_ ?_
       rotate_left
       ·
        go_simp
        rfl
       refine hK.out _ _ ?_
       clear hK K
       exact norm_ (by rfl) hCont
      ·
       skip
       have hs48 : w47.cell? ⟨gb148, 0, none⟩ = some (.int .i64 x149000_1) := (blk_cell BK148.out 0).trans rfl
       have hfs48 := blk_frozen BK148.out 0
       have hns48_0 := NB143_148.out
       have hns48_1 := NB144_148.out
       have hns48_2 := NB145_148.out
       have hns48_4 := NB154_148.out
       have hms48_0 := NB148_143.out
       have hms48_1 := NB148_144.out
       have hms48_2 := NB148_145.out
       have hms48_4 := NB148_154.out
       refine skip_ (w1 := ?_) (by rfl) rfl ?_ ?_
       rotate_left
       ·
        go_simp
        rfl
       refine hK.out _ _ ?_
       clear hK K
       have hq4_ : ∀ v_ : Value, (World.setCell w47 ⟨gb148, 0, none⟩ v_).cell? (ad156.add (((rd l0_1 x29_1)).toNat * 4)) = some (.int .i64 ((rd_T37 l1 (rd l0_1 x29_1)).f0)) := fun v_ => (((below_set HB.out GE148.out).cell (World.block_lt_of_cell? w _ hw156_0)).trans hw156_0)
       have hq5_ : ∀ v_ : Value, (World.setCell w47 ⟨gb148, 0, none⟩ v_).cell? ⟨(ad156.add (((rd l0_1 x29_1)).toNat * 4)).block, (ad156.add (((rd l0_1 x29_1)).toNat * 4)).off + 1, none⟩ = some (.int .i64 ((rd_T37 l1 (rd l0_1 x29_1)).f1)) := fun v_ => (((below_set HB.out GE148.out).cell (World.block_lt_of_cell? w _ hw156_1)).trans hw156_1)
       have hq6_ : ∀ v_ : Value, (World.setCell w47 ⟨gb148, 0, none⟩ v_).cell? ⟨(ad156.add (((rd l0_1 x29_1)).toNat * 4)).block, (ad156.add (((rd l0_1 x29_1)).toNat * 4)).off + 2, none⟩ = some (.int .i64 ((rd_T37 l1 (rd l0_1 x29_1)).f2)) := fun v_ => (((below_set HB.out GE148.out).cell (World.block_lt_of_cell? w _ hw156_2)).trans hw156_2)
       have hq7_ : ∀ v_ : Value, (World.setCell w47 ⟨gb148, 0, none⟩ v_).cell? ⟨(ad156.add (((rd l0_1 x29_1)).toNat * 4)).block, (ad156.add (((rd l0_1 x29_1)).toNat * 4)).off + 3, none⟩ = some (.int .i64 ((rd_T37 l1 (rd l0_1 x29_1)).f3)) := fun v_ => (((below_set HB.out GE148.out).cell (World.block_lt_of_cell? w _ hw156_3)).trans hw156_3)
       have hq8_ : ∀ v_ : Value, (World.setCell w47 ⟨gb148, 0, none⟩ v_).cell? (ad156.add (((rd l0_1 x29_1)).toNat * 4)) = some (.int .i64 ((rd_T37 l1 (rd l0_1 x29_1)).f0)) := fun v_ => (((below_set HB.out GE148.out).cell (World.block_lt_of_cell? w _ hw157_0)).trans hw157_0)
       have hq9_ : ∀ v_ : Value, (World.setCell w47 ⟨gb148, 0, none⟩ v_).cell? ⟨(ad156.add (((rd l0_1 x29_1)).toNat * 4)).block, (ad156.add (((rd l0_1 x29_1)).toNat * 4)).off + 1, none⟩ = some (.int .i64 ((rd_T37 l1 (rd l0_1 x29_1)).f1)) := fun v_ => (((below_set HB.out GE148.out).cell (World.block_lt_of_cell? w _ hw157_1)).trans hw157_1)
       have hq10_ : ∀ v_ : Value, (World.setCell w47 ⟨gb148, 0, none⟩ v_).cell? ⟨(ad156.add (((rd l0_1 x29_1)).toNat * 4)).block, (ad156.add (((rd l0_1 x29_1)).toNat * 4)).off + 2, none⟩ = some (.int .i64 ((rd_T37 l1 (rd l0_1 x29_1)).f2)) := fun v_ => (((below_set HB.out GE148.out).cell (World.block_lt_of_cell? w _ hw157_2)).trans hw157_2)
       have hq11_ : ∀ v_ : Value, (World.setCell w47 ⟨gb148, 0, none⟩ v_).cell? ⟨(ad156.add (((rd l0_1 x29_1)).toNat * 4)).block, (ad156.add (((rd l0_1 x29_1)).toNat * 4)).off + 3, none⟩ = some (.int .i64 ((rd_T37 l1 (rd l0_1 x29_1)).f3)) := fun v_ => (((below_set HB.out GE148.out).cell (World.block_lt_of_cell? w _ hw157_3)).trans hw157_3)
       refine oneK_ (i := 14) (N := some 47) #[J,J,J,J,J,J,J,J,J,J,J,J,J,J,J,O,J,J,O,O] rfl rfl (by kernel_rfl) (fun K hK => ?_)
       refine value_ (w1 := ?_) (v := ?_) (by rfl) rfl ?_ ?_
       rotate_left 2
       ·
        go_simp
        constructor
        ·
         rfl
        ·
         rfl
       refine hK.out _ _ (fun h_ => h_) ?_
       clear hK K
       refine norm_ (a' := ?_) ?_ ?_
       rotate_left
       ·
        show Act.put _ (some 47) _ = _
        simp only [Act.put, List.setIfInBounds_toArray, List.set_cons_zero, List.set_cons_succ, i64_w, i32_w]
        rfl
       refine pureA 15 48 #[J,J,J,J,J,J,J,J,J,J,J,J,J,J,J,J,J,J,O,O] ?_
       exact norm_ (by rfl) hCont
     refine norm_ (a' := ?_) ?_ ?_
     rotate_left
     ·
      simp only [putAll, Act.put, List.setIfInBounds_toArray, List.set_cons_zero, List.set_cons_succ]
      rfl
     refine pureA 18 50 #[J,J,J,J,J,J,J,J,J,J,J,J,J,J,J,J,J,J,J,O] ?_
     refine last_ (i := 19) (N := none) #[J,J,J,J,J,J,J,J,J,J,J,J,J,J,J,J,J,J,J,J] rfl rfl (one_of HT_.out (by kernel_rfl)) (by decide) (fun K hK => ?_)
     have hs49 : w47.cell? ⟨gb148, 1, none⟩ = some (.int .i64 x149001_1) := (blk_cell BK148.out 1).trans rfl
     have hfs49 := blk_frozen BK148.out 1
     have hns49_0 := NB143_148.out
     have hns49_1 := NB144_148.out
     have hns49_2 := NB145_148.out
     have hns49_4 := NB154_148.out
     have hms49_0 := NB148_143.out
     have hms49_1 := NB148_144.out
     have hms49_2 := NB148_145.out
     have hms49_4 := NB148_154.out
     refine skip_ (w1 := ?_) (by rfl) rfl ?_ ?_
     rotate_left
     ·
      go_simp
      rfl
     refine hK.out _ _ ?_
     clear hK K
     refine done_ (done_of HT_.out (by kernel_rfl)) ?_
     have p158 : 0 ≤ ((rd l0_1 x29_1) : Int) := odA
     have q158 : (rd l0_1 x29_1) < (l1.length : Int) := odA
     obtain ⟨ad158, e158, hx158_0, hx158_1, hx158_2, hx158_3⟩ := at_T37 HR1.out (rd l0_1 x29_1) p158 q158
     obtain rfl : ad156 = ad158 := (by injection e158)
     have hn158_0 : ad156.block ≠ gb148 := Nat.ne_of_lt (Nat.lt_of_lt_of_le (by have := World.block_lt_of_cell? _ _ hx158_0; first | rwa [add_block] at this | exact this) GW148.out)
     have hn158_1 : ad156.block ≠ gb148 := Nat.ne_of_lt (Nat.lt_of_lt_of_le (by have := World.block_lt_of_cell? _ _ hx158_0; first | rwa [add_block] at this | exact this) GW148.out)
     replace hx158_0 := pw_cell_below HB.out hx158_0
     replace hx158_1 := pw_cell_below HB.out hx158_1
     replace hx158_2 := pw_cell_below HB.out hx158_2
     replace hx158_3 := pw_cell_below HB.out hx158_3
     replace hx158_0 := (cell_far (p := ⟨gb148, 0, none⟩) (by first | exact far_add hn158_0 | exact hn158_0) (.int .i64 ji29)).trans hx158_0
     replace hx158_1 := (cell_far (p := ⟨gb148, 0, none⟩) (by first | exact far_add hn158_0 | exact hn158_0) (.int .i64 ji29)).trans hx158_1
     replace hx158_2 := (cell_far (p := ⟨gb148, 0, none⟩) (by first | exact far_add hn158_0 | exact hn158_0) (.int .i64 ji29)).trans hx158_2
     replace hx158_3 := (cell_far (p := ⟨gb148, 0, none⟩) (by first | exact far_add hn158_0 | exact hn158_0) (.int .i64 ji29)).trans hx158_3
     replace hx158_0 := (cell_far (p := ⟨gb148, 1, none⟩) (by first | exact far_add hn158_1 | exact hn158_1) (.int .i64 ji30)).trans hx158_0
     replace hx158_1 := (cell_far (p := ⟨gb148, 1, none⟩) (by first | exact far_add hn158_1 | exact hn158_1) (.int .i64 ji30)).trans hx158_1
     replace hx158_2 := (cell_far (p := ⟨gb148, 1, none⟩) (by first | exact far_add hn158_1 | exact hn158_1) (.int .i64 ji30)).trans hx158_2
     replace hx158_3 := (cell_far (p := ⟨gb148, 1, none⟩) (by first | exact far_add hn158_1 | exact hn158_1) (.int .i64 ji30)).trans hx158_3
     clear hn158_0
     clear hn158_1
     replace p158 := eq_true p158
     replace q158 := eq_true q158
     try go_wp2_with (first | ((with_reducible refine gate_builtin (b := .append) (xs := #[.tmp 51, .tmp 57]) rfl ?_); at_builtin; refine Kd.R_append (Kd.int .i64) (w0 := w) w.heap.size rfl (.tmp 51) (.tmp 57) 38 3 (.int .i64 0) 8 rfl Try.underlying38 info3 rfl (by decide) (by omega) u10 x10_1 ((rd_T37 l1 (rd l0_1 x29_1)).f2) [.int .i64 ((rd_T37 l1 (rd l0_1 x29_1)).f2)] (fun _ => True) (fun _ => False) rfl (by first | (go_simp; done) | (go_simp; rfl)) ?aP (fun _ hk => hk.elim) ?aF ?aO ?aB ?aS ?aL ?_; (case aP => exact rfl); (case aB => exact belowA); (case aF => exact (fun _ _ => trivial)); (case aO => exact (by (with_reducible repeat (first | apply Kd.R_alloc | apply Kd.R_drewN | apply Kd.R_drew)); exact Kd.R_mono (Kd.R_far (p := ⟨gb148, 1, none⟩) (Kd.R_far (p := ⟨gb148, 0, none⟩) (Kd.R_types HO_10.out BK148.out (by decide)) (fun _ hk => hk.2) (.int .i64 ji29)) (fun _ hk => hk.2) (.int .i64 ji30)) (fun _ hk => trivial))); (case aS => exact below_sizeA); (case aL => have := LMc31.out; omega); intro v160 w50 ho hb hg hat; rw [← Ny159.out] at ho; have n0_ := Aside0.mk (blk_grown (g := gb143) (o := .cells (B44 a0_0 (some ad155) l0_1 c0_1 a0_2 a0_3 A0_4 l0_4 c0_4 a0_5 a0_6 a0_7 A0_8 l0_8 c0_8 A0_9 l0_9 c0_9 a0_10 a0_11 a0_12 A0_13 l0_13 c0_13 A0_14 l0_14 c0_14 A0_15 l0_15 c0_15) 44 (0, 0)) (blk_move BK143.out) hg (Kd.R_ne HO_10.out BK143.out (by decide))); have n1_ := Aside0.mk (blk_grown (g := gb144) (o := .cells #[.int .i64 a2_0, .int .i64 a2_1, .int .i64 a2_2, .int .i64 a2_3, .int .i64 a2_4, .int .i64 a2_5] 27 (0, 0)) (blk_move BK144.out) hg (Kd.R_ne HO_10.out BK144.out (by decide))); have n2_ := Aside0.mk (blk_grown (g := gb145) (o := .cells #[.int .i64 0, .int .i64 0, .int .i64 0, .int .i64 0] 37 (0, 0)) (blk_move BK145.out) hg (Kd.R_ne HO_10.out BK145.out (by decide))); have n3_ := Aside0.mk (blk_grown (g := gb148) (o := .cells #[.int .i64 ji29, .int .i64 ji30, .int .i64 0, .int .i64 x149003_1] 37 (0, 0)) (blk_move BK148.out) hg (Kd.R_ne HO_10.out BK148.out (by decide))); have n4_ := Aside0.mk (blk_grown (g := gb154) (o := .cells #[.int .i64 t149, fnV t150, fnV t151, .bool false] 65 (0, 0)) (blk_move BK154.out) hg (Kd.R_ne HO_10.out BK154.out (by decide))); have n5_ := Aside0.mk (hb); have n6_ := Aside0.mk (ho); clear BK143; clear BK144; clear BK145; clear BK148; clear BK154; clear HB; clear HO_10; have BK143 := n0_; have BK144 := n1_; have BK145 := n2_; have BK148 := n3_; have BK154 := n4_; have HB := n5_; have HO161 := n6_; clear n0_ n1_ n2_ n3_ n4_ n5_ n6_; clear ho hb hg hat; have hnb51 := NB154_143.out; have hnc51 := NB143_154.out; have hnb52 := NB154_144.out; have hnc52 := NB144_154.out; have hnb53 := NB154_145.out; have hnc53 := NB145_154.out; have hnb54 := NB154_148.out; have hnc54 := NB148_154.out; have hz55 := blk4 BK154.out))
     go_roundg k1
     case measure => have := HK1.out; omega
     case rel => exact ⟨(y159), (wrap64 (x29_1 + 1)), (ji29), (ji30), (x149003_1), (by first | rfl | (simp; done) | (simp [*]; done)), H', ⟨by have := HK1.out; omega⟩, ⟨by (with_reducible repeat (first | apply Kd.R_alloc | apply Kd.R_drewN | apply Kd.R_drew)); exact HO161.out⟩, ⟨blk_move BK143.out⟩, ⟨blk_move BK144.out⟩, ⟨blk_move BK145.out⟩, ⟨blk_move BK148.out⟩, ⟨blk_move BK154.out⟩, ⟨by repeat (first | (with_reducible first | exact HB.out | apply below_alloc | apply pw_below_drewN | apply below_drew1 | refine below_set ?_ GE143.out | refine below_set ?_ GE144.out | refine below_set ?_ GE145.out | refine below_set ?_ GE148.out | refine below_set ?_ GE154.out) | exact HB.out)⟩⟩
   ·
    rw [if_neg c24] at H
    have c24b0 : decide (x29_1 < (l0_1.length : Int)) = false := decide_eq_false c24
    clear c24
    by_cases c56 : a0_0 = 0
    ·
     rw [if_pos c56] at H
     have c56b0 : (a0_0 == 0) = true := beq_iff_eq.mpr c56
     have c56b1 : (a0_0 != 0) = false := bne_eq_false_iff_eq.mpr c56
     clear c56
     simp only [Option.some.injEq, Prod.mk.injEq] at H
     obtain ⟨rfl, rfl, rfl, rfl⟩ := H
     have hnb57 := NB148_143.out
     have hnc57 := NB143_148.out
     have hnb58 := NB148_144.out
     have hnc58 := NB144_148.out
     have hnb59 := NB148_145.out
     have hnc59 := NB145_148.out
     have hnb60 := NB148_154.out
     have hnc60 := NB154_148.out
     have hz61 := blk4 BK148.out
     have hnb62 := NB143_144.out
     have hnc62 := NB144_143.out
     have hnb63 := NB143_145.out
     have hnc63 := NB145_143.out
     have hnb64 := NB143_154.out
     have hnc64 := NB154_143.out
     have hz65 := blk16 BK143.out
     have hnb66 := NB144_145.out
     have hnc66 := NB145_144.out
     have hnb67 := NB144_154.out
     have hnc67 := NB154_144.out
     have hz68 := blk6 BK144.out
     have hnb69 := NB145_154.out
     have hnc69 := NB154_145.out
     have hz70 := blk4 BK145.out
     go_wp2
     refine bodyPost_ret (results_cell_row rfl _ _ gb145 37 #[.int .i64 (wrap64 (x149000_1 + t146)), .int .i64 (wrap64 (x149001_1 + t147)), .int .i64 (wrap64 (a2_0 * a2_4)), .int .i64 x149003_1] (0, 0) _ rfl (blk_move BK145.out) Try.underlying37 rfl (by kernel_rfl)) rfl ?_
     exact ⟨by first | rfl | (simp [errW_none, errW_some] <;> rfl) | (simp [*, errW_none, errW_some] <;> rfl), belowA⟩
    ·
     rw [if_neg c56] at H
     have c56b0 : (a0_0 == 0) = false := beq_eq_false_iff_ne.mpr c56
     have c56b1 : (a0_0 != 0) = true := bne_iff_ne.mpr c56
     by_cases c71 : a0_0 = 3
     ·
      rw [if_pos c71] at H
      have c71b0 : (a0_0 == 3) = true := beq_iff_eq.mpr c71
      have c71b1 : (a0_0 != 3) = false := bne_eq_false_iff_eq.mpr c71
      clear c71
      by_cases c72 : 0 < (x10_1.length : Int)
      case neg => rw [if_neg c72] at H; exact absurd H (by simp)
      rw [if_pos c72] at H
      have c72b0 : decide (0 < (x10_1.length : Int)) = true := decide_eq_true c72
      have c72b1 : decide (0 < x10_1.length) = true := decide_eq_true (by omega)
      clear c72
      by_cases c73 : 1 < (x10_1.length : Int)
      case neg => rw [if_neg c73] at H; exact absurd H (by simp)
      rw [if_pos c73] at H
      have c73b0 : decide (1 < (x10_1.length : Int)) = true := decide_eq_true c73
      have c73b1 : decide (1 < x10_1.length) = true := decide_eq_true (by omega)
      clear c73
      replace H := Option.bind_eq_some_iff.mp H
      obtain ⟨t168, A740, H⟩ := H
      try dsimp only at H
      have A74 := Aside0.mk A740
      clear A740
      simp only [Option.some.injEq, Prod.mk.injEq] at H
      obtain ⟨rfl, rfl, rfl, rfl⟩ := H
      have hnb75 := NB148_143.out
      have hnc75 := NB143_148.out
      have hnb76 := NB148_144.out
      have hnc76 := NB144_148.out
      have hnb77 := NB148_145.out
      have hnc77 := NB145_148.out
      have hnb78 := NB148_154.out
      have hnc78 := NB154_148.out
      have hz79 := blk4 BK148.out
      have hnb80 := NB143_144.out
      have hnc80 := NB144_143.out
      have hnb81 := NB143_145.out
      have hnc81 := NB145_143.out
      have hnb82 := NB143_154.out
      have hnc82 := NB154_143.out
      have hz83 := blk16 BK143.out
      try go_wp2
      have n0_ : Aside0 (Kd.R (Kd.int .i64) 3 ((wr.setCell ⟨gb148, 0, none⟩ (.int .i64 (wrap64 (x149000_1 + t146)))).setCell ⟨gb148, 1, none⟩ (.int .i64 (wrap64 (x149001_1 + t147)))) w.heap.size (fun _ => True) u10 x10_1) := ⟨by (with_reducible repeat (first | apply Kd.R_alloc | apply Kd.R_drewN | apply Kd.R_drew)); exact Kd.R_mono (Kd.R_far (p := ⟨gb148, 1, none⟩) (Kd.R_far (p := ⟨gb148, 0, none⟩) (Kd.R_types HO_10.out BK148.out (by decide)) (fun _ hk => hk.2) (.int .i64 (wrap64 (x149000_1 + t146)))) (fun _ hk => hk.2) (.int .i64 (wrap64 (x149001_1 + t147)))) (fun _ hk => trivial)⟩
      have n1_ : Aside0 (((wr.setCell ⟨gb148, 0, none⟩ (.int .i64 (wrap64 (x149000_1 + t146)))).setCell ⟨gb148, 1, none⟩ (.int .i64 (wrap64 (x149001_1 + t147)))).heap[gb143]? = some (.cells (B44 a0_0 A0_1 l0_1 c0_1 a0_2 a0_3 A0_4 l0_4 c0_4 a0_5 a0_6 a0_7 A0_8 l0_8 c0_8 A0_9 l0_9 c0_9 a0_10 a0_11 a0_12 A0_13 l0_13 c0_13 A0_14 l0_14 c0_14 A0_15 l0_15 c0_15) 44 (0, 0))) := ⟨blk_move BK143.out⟩
      have n2_ : Aside0 (((wr.setCell ⟨gb148, 0, none⟩ (.int .i64 (wrap64 (x149000_1 + t146)))).setCell ⟨gb148, 1, none⟩ (.int .i64 (wrap64 (x149001_1 + t147)))).heap[gb144]? = some (.cells #[.int .i64 a2_0, .int .i64 a2_1, .int .i64 a2_2, .int .i64 a2_3, .int .i64 a2_4, .int .i64 a2_5] 27 (0, 0))) := ⟨blk_move BK144.out⟩
      have n3_ : Aside0 (((wr.setCell ⟨gb148, 0, none⟩ (.int .i64 (wrap64 (x149000_1 + t146)))).setCell ⟨gb148, 1, none⟩ (.int .i64 (wrap64 (x149001_1 + t147)))).heap[gb145]? = some (.cells #[.int .i64 0, .int .i64 0, .int .i64 0, .int .i64 0] 37 (0, 0))) := ⟨blk_move BK145.out⟩
      have n4_ : Aside0 (((wr.setCell ⟨gb148, 0, none⟩ (.int .i64 (wrap64 (x149000_1 + t146)))).setCell ⟨gb148, 1, none⟩ (.int .i64 (wrap64 (x149001_1 + t147)))).heap[gb148]? = some (.cells #[.int .i64 (wrap64 (x149000_1 + t146)), .int .i64 (wrap64 (x149001_1 + t147)), .int .i64 0, .int .i64 x149003_1] 37 (0, 0))) := ⟨blk_move BK148.out⟩
      have n5_ : Aside0 (((wr.setCell ⟨gb148, 0, none⟩ (.int .i64 (wrap64 (x149000_1 + t146)))).setCell ⟨gb148, 1, none⟩ (.int .i64 (wrap64 (x149001_1 + t147)))).heap[gb154]? = some (.cells #[.int .i64 t149, fnV t150, fnV t151, .bool t152] 65 (0, 0))) := ⟨blk_move BK154.out⟩
      have n6_ : Aside0 (Below w.heap.size w ((wr.setCell ⟨gb148, 0, none⟩ (.int .i64 (wrap64 (x149000_1 + t146)))).setCell ⟨gb148, 1, none⟩ (.int .i64 (wrap64 (x149001_1 + t147))))) := ⟨by repeat (first | (with_reducible first | exact HB.out | apply below_alloc | apply pw_below_drewN | apply below_drew1 | refine below_set ?_ GE143.out | refine below_set ?_ GE144.out | refine below_set ?_ GE145.out | refine below_set ?_ GE148.out | refine below_set ?_ GE154.out) | exact HB.out)⟩
      (try clear HO_10)
      (try clear BK143)
      (try clear BK144)
      (try clear BK145)
      (try clear BK148)
      (try clear BK154)
      (try clear HB)
      generalize ((wr.setCell ⟨gb148, 0, none⟩ (.int .i64 (wrap64 (x149000_1 + t146)))).setCell ⟨gb148, 1, none⟩ (.int .i64 (wrap64 (x149001_1 + t147)))) = w84 at n0_ n1_ n2_ n3_ n4_ n5_ n6_ ⊢
      have HO_10 := n0_
      have BK143 := n1_
      have BK144 := n2_
      have BK145 := n3_
      have BK148 := n4_
      have BK154 := n5_
      have HB := n6_
      clear n0_ n1_ n2_ n3_ n4_ n5_ n6_
      have n0_ := Aside0.mk (Kd.R_drew HO_10.out)
      have n1_ := Aside0.mk (blk_drew BK143.out)
      have n2_ := Aside0.mk (blk_drew BK144.out)
      have n3_ := Aside0.mk (blk_drew BK145.out)
      have n4_ := Aside0.mk (blk_drew BK148.out)
      have n5_ := Aside0.mk (blk_drew BK154.out)
      have n6_ := Aside0.mk (below_drew1 HB.out)
      clear HO_10
      clear BK143
      clear BK144
      clear BK145
      clear BK148
      clear BK154
      clear HB
      have HO_10 := n0_
      have BK143 := n1_
      have BK144 := n2_
      have BK145 := n3_
      have BK148 := n4_
      have BK154 := n5_
      have HB := n6_
      clear n0_ n1_ n2_ n3_ n4_ n5_ n6_
      obtain ⟨Ao86, co86, eo86⟩ := Kd.R_slice HO_10.out
      (first | subst eo86 | (injection eo86 with f1_ f2_ f3_; have f4_ := f1_.symm; have f5_ := f3_.symm; clear f1_ f2_ f3_; subst f4_; subst f5_))
      have p166 : 0 ≤ (0 : Int) := (by omega)
      have q166 : 0 < (x10_1.length : Int) := odA
      obtain ⟨ad166, e166, hx166_0⟩ := Kd.at_int (Kd.R_reads' HO_10.out).2.2 0 p166 q166
      cases e166
      have qi166 : (0 < x10_1.length) = True := eq_true (by omega)
      (try rw [show ((0 : Int)).toNat = 0 from rfl] at hx166_0)
      (try rw [Addr.add_zero'] at hx166_0)
      replace p166 := eq_true p166
      replace q166 := eq_true q166
      have p167 : 0 ≤ (1 : Int) := (by omega)
      have q167 : 1 < (x10_1.length : Int) := odA
      obtain ⟨ad167, e167, hx167_0⟩ := Kd.at_int (Kd.R_reads' HO_10.out).2.2 1 p167 q167
      obtain rfl : ad166 = ad167 := (by injection e167)
      (try simp only [show (1 : Int).toNat = 1 from rfl, Nat.reduceMul, Nat.reduceEqDiff, Go.Addr.add, ↓reduceIte] at hx167_0)
      have qi167 : (1 < x10_1.length) = True := eq_true (by omega)
      (try rw [show ((1 : Int)).toNat = 1 from rfl] at hx167_0)
      replace p167 := eq_true p167
      replace q167 := eq_true q167
      refine start_ (n := 9) (S := fun w' => w'.cell? ad166 = some (.int .i64 (rd x10_1 0)) ∧ w'.cell? ⟨ad166.block, ad166.off + 1, none⟩ = some (.int .i64 (rd x10_1 1))) (ds := []) #[O,O,O,O,O,O,O,O,O] (by kernel_rfl) rfl rfl ⟨hx166_0, hx167_0⟩ (fun hHeld => ?_); refine with_tabW bounds_bound.tab20 bounds_bound.bits20 (fun HT_ HW_ => ?_)
      generalize w84.drew = w85 at HO_10 BK143 BK144 BK145 BK148 BK154 HB hx166_0 hx167_0 hHeld ⊢
      refine pureA 0 108 #[J,O,O,O,O,O,O,O,O] ?_
      refine pureA 1 109 #[J,J,O,O,O,O,O,O,O] ?_
      refine pureA 3 111 #[J,J,O,J,O,O,O,O,O] ?_
      refine pureA 4 112 #[J,J,O,J,J,O,O,O,O] ?_
      refine takeA 2 110 #[J,J,J,J,J,O,O,O,O] ?_
      refine takeA 5 113 #[J,J,J,J,J,J,O,O,O] ?_
      refine one_ (i := 6) (N := some 114) #[J,J,J,J,J,J,J,O,O] rfl rfl (one_of HT_.out (by kernel_rfl)) (by decide) (fun K hK => ?_)
      refine goes_ Try.func32 (by kernel_rfl) rfl #[.int .i64 (rd x10_1 0), .int .i64 (rd x10_1 1)] (by rfl) rfl rfl mapA ?_
      with_reducible refine (bounds_plus.calls _ _ t168 _ A74.out).mono ?_
      rintro e w87 ⟨rfl, hb⟩
      have HS0_ := (hb.cell (World.block_lt_of_cell? _ _ (hHeld.1))).trans (hHeld.1)
      have HS1_ := (hb.cell (World.block_lt_of_cell? _ _ (hHeld.2))).trans (hHeld.2)
      refine ⟨_, rfl, ?_⟩
      have n0_ := Aside0.mk (r_belowA HO_10.out hb)
      have n1_ := Aside0.mk (blk_keepA BK143.out hb)
      have n2_ := Aside0.mk (blk_keepA BK144.out hb)
      have n3_ := Aside0.mk (blk_keepA BK145.out hb)
      have n4_ := Aside0.mk (blk_keepA BK148.out hb)
      have n5_ := Aside0.mk (blk_keepA BK154.out hb)
      have n6_ := Aside0.mk (below_stepA hb)
      clear HO_10
      clear BK143
      clear BK144
      clear BK145
      clear BK148
      clear BK154
      clear HB
      have HO_10 := n0_
      have BK143 := n1_
      have BK144 := n2_
      have BK145 := n3_
      have BK148 := n4_
      have BK154 := n5_
      have HB := n6_
      clear n0_ n1_ n2_ n3_ n4_ n5_ n6_
      (try clear hb)
      (try clear hb2)
      (try clear hk)
      (try clear hi)
      refine hK.out _ _ ⟨HS0_, HS1_⟩ (fun hHeld => ?_)
      clear hK K
      refine norm_ (a' := ?_) ?_ ?_
      rotate_left
      ·
       show Act.put _ (some 114) _ = _
       simp only [Act.put, List.setIfInBounds_toArray, List.set_cons_zero, List.set_cons_succ, i64_w, i32_w]
       rfl
      refine pureA 7 115 #[J,J,J,J,J,J,J,J,O] ?_
      refine one_ (i := 8) (N := none) #[J,J,J,J,J,J,J,J,J] rfl rfl (one_of HT_.out (by kernel_rfl)) (by decide) (fun K hK => ?_)
      have hs88 : w87.cell? ⟨gb148, 2, none⟩ = some (.int .i64 0) := (blk_cell BK148.out 2).trans rfl
      have hfs88 := blk_frozen BK148.out 2
      have hns88_0 := NB143_148.out
      have hns88_1 := NB144_148.out
      have hns88_2 := NB145_148.out
      have hns88_4 := NB154_148.out
      have hms88_0 := NB148_143.out
      have hms88_1 := NB148_144.out
      have hms88_2 := NB148_145.out
      have hms88_4 := NB148_154.out
      refine skip_ (w1 := ?_) (by rfl) rfl ?_ ?_
      rotate_left
      ·
       go_simp
       rfl
      refine hK.out _ _ ⟨((cell_far (p := ⟨gb148, _, none⟩) (by have hne_ := Kd.own_blk (Kd.R_ne HO_10.out BK148.out (by decide)); first | exact hne_ | exact far_add hne_) _).trans (hHeld.1)), ((cell_far (p := ⟨gb148, _, none⟩) (by have hne_ := Kd.own_blk (Kd.R_ne HO_10.out BK148.out (by decide)); first | exact hne_ | exact far_add hne_) _).trans (hHeld.2))⟩ (fun hHeld => ?_)
      clear hK K
      refine done_ (done_of HT_.out (by kernel_rfl)) ?_
      have hz89 := blk4 BK148.out
      have hnb90 := NB145_144.out
      have hnc90 := NB144_145.out
      have hnb91 := NB145_154.out
      have hnc91 := NB154_145.out
      have hz92 := blk4 BK145.out
      try go_wp2
      refine bodyPost_ret (results_cell_row rfl _ _ gb145 37 #[.int .i64 (wrap64 (x149000_1 + t146)), .int .i64 (wrap64 (x149001_1 + t147)), .int .i64 t168, .int .i64 x149003_1] (0, 0) _ rfl (blk_move BK145.out) Try.underlying37 rfl (by kernel_rfl)) rfl ?_
      exact ⟨by first | rfl | (simp [errW_none, errW_some] <;> rfl) | (simp [*, errW_none, errW_some] <;> rfl), belowA⟩
     ·
      rw [if_neg c71] at H
      have c71b0 : (a0_0 == 3) = false := beq_eq_false_iff_ne.mpr c71
      have c71b1 : (a0_0 != 3) = true := bne_iff_ne.mpr c71
      have HC93 := Aside0.mk H
      clear H
      have hnb94 := NB148_143.out
      have hnc94 := NB143_148.out
      have hnb95 := NB148_144.out
      have hnc95 := NB144_148.out
      have hnb96 := NB148_145.out
      have hnc96 := NB145_148.out
      have hnb97 := NB148_154.out
      have hnc97 := NB154_148.out
      have hz98 := blk4 BK148.out
      have hnb99 := NB143_144.out
      have hnc99 := NB144_143.out
      have hnb100 := NB143_145.out
      have hnc100 := NB145_143.out
      have hnb101 := NB143_154.out
      have hnc101 := NB154_143.out
      have hz102 := blk16 BK143.out
      go_upto_if 116 with (fail)
      go_cut [116] (fun v116 wc => ∃ (kq : Nat) (x116_92 : Bool), v116 = .bool x116_92 ∧ Aside0 (bounds_bound.j1 kq x10_1 a0_0 x116_92 a0_0 l0_1 a0_2 a0_3 l0_4 a0_5 a0_6 a0_7 l0_8 l0_9 a0_10 a0_11 a0_12 l0_13 l0_14 l0_15 (wrap64 (x149000_1 + t146)) (wrap64 (x149001_1 + t147)) 0 x149003_1 = some (r1, r2, r3, r4)) ∧ Aside0 (kq ≤ k1) ∧ Aside0 (Kd.R (Kd.int .i64) 3 wc w.heap.size (fun _ => True) u10 x10_1) ∧ Aside0 (wc.heap[gb143]? = some (.cells #[.int .i64 a0_0, (.slice A0_1 l0_1.length c0_1), .string a0_2, .int .i64 a0_3, (.slice A0_4 l0_4.length c0_4), .int .i64 a0_5, .int .i64 a0_6, .int .i64 a0_7, (.slice A0_8 l0_8.length c0_8), (.slice A0_9 l0_9.length c0_9), .int .i64 a0_10, .int .i64 a0_11, .int .i64 a0_12, (.slice A0_13 l0_13.length c0_13), (.slice A0_14 l0_14.length c0_14), (.slice A0_15 l0_15.length c0_15)] 44 (0, 0))) ∧ Aside0 (wc.heap[gb144]? = some (.cells #[.int .i64 a2_0, .int .i64 a2_1, .int .i64 a2_2, .int .i64 a2_3, .int .i64 a2_4, .int .i64 a2_5] 27 (0, 0))) ∧ Aside0 (wc.heap[gb145]? = some (.cells #[.int .i64 0, .int .i64 0, .int .i64 0, .int .i64 0] 37 (0, 0))) ∧ Aside0 (wc.heap[gb148]? = some (.cells #[.int .i64 (wrap64 (x149000_1 + t146)), .int .i64 (wrap64 (x149001_1 + t147)), .int .i64 0, .int .i64 x149003_1] 37 (0, 0))) ∧ Aside0 (wc.heap[gb154]? = some (.cells #[.int .i64 t149, fnV t150, fnV t151, .bool t152] 65 (0, 0))) ∧ Aside0 (Below w.heap.size w wc))
      case first =>
       have H := HC93.out
       clear HC93
       by_cases c103 : a0_0 = 4
       ·
        rw [if_pos c103] at H
        have c103b0 : (a0_0 == 4) = true := beq_iff_eq.mpr c103
        have c103b1 : (a0_0 != 4) = false := bne_eq_false_iff_eq.mpr c103
        clear c103
        (first | rw [c103b0] | (simp only [i64_w, i32_w]; rw [c103b0]) | skip)
        have H' := Aside0.mk H
        clear H
        go_wp2
        go_meet
        case rel => exact ⟨_, ((a0_0 == 4)), (by first | rfl | (simp; done) | (simp [*]; done)), H', ⟨by have := HK1.out; first | omega | exact Nat.le_refl _⟩, ⟨by (with_reducible repeat (first | apply Kd.R_alloc | apply Kd.R_drewN | apply Kd.R_drew)); exact Kd.R_mono (Kd.R_far (p := ⟨gb148, 1, none⟩) (Kd.R_far (p := ⟨gb148, 0, none⟩) (Kd.R_types HO_10.out BK148.out (by decide)) (fun _ hk => hk.2) (.int .i64 (wrap64 (x149000_1 + t146)))) (fun _ hk => hk.2) (.int .i64 (wrap64 (x149001_1 + t147)))) (fun _ hk => trivial)⟩, ⟨blk_move BK143.out⟩, ⟨blk_move BK144.out⟩, ⟨blk_move BK145.out⟩, ⟨blk_move BK148.out⟩, ⟨blk_move BK154.out⟩, ⟨by repeat (first | (with_reducible first | exact HB.out | apply below_alloc | apply pw_below_drewN | apply below_drew1 | refine below_set ?_ GE143.out | refine below_set ?_ GE144.out | refine below_set ?_ GE145.out | refine below_set ?_ GE148.out | refine below_set ?_ GE154.out) | exact HB.out)⟩⟩
       ·
        rw [if_neg c103] at H
        have c103b0 : (a0_0 == 4) = false := beq_eq_false_iff_ne.mpr c103
        have c103b1 : (a0_0 != 4) = true := bne_iff_ne.mpr c103
        (first | rw [c103b0] | (simp only [i64_w, i32_w]; rw [c103b0]) | skip)
        have H' := Aside0.mk H
        clear H
        go_wp2
        go_meet
        case rel => exact ⟨_, ((a0_0 == 5)), (by first | rfl | (simp; done) | (simp [*]; done)), H', ⟨by have := HK1.out; first | omega | exact Nat.le_refl _⟩, ⟨by (with_reducible repeat (first | apply Kd.R_alloc | apply Kd.R_drewN | apply Kd.R_drew)); exact Kd.R_mono (Kd.R_far (p := ⟨gb148, 1, none⟩) (Kd.R_far (p := ⟨gb148, 0, none⟩) (Kd.R_types HO_10.out BK148.out (by decide)) (fun _ hk => hk.2) (.int .i64 (wrap64 (x149000_1 + t146)))) (fun _ hk => hk.2) (.int .i64 (wrap64 (x149001_1 + t147)))) (fun _ hk => trivial)⟩, ⟨blk_move BK143.out⟩, ⟨blk_move BK144.out⟩, ⟨blk_move BK145.out⟩, ⟨blk_move BK148.out⟩, ⟨blk_move BK154.out⟩, ⟨by repeat (first | (with_reducible first | exact HB.out | apply below_alloc | apply pw_below_drewN | apply below_drew1 | refine below_set ?_ GE143.out | refine below_set ?_ GE144.out | refine below_set ?_ GE145.out | refine below_set ?_ GE148.out | refine below_set ?_ GE154.out) | exact HB.out)⟩⟩
      case rest =>
       clear HC93
       try clear c1
       try clear p1
       try clear q1
       try clear hx1
       try clear qi1
       try clear c2
       try clear p2
       try clear c3
       try clear q4
       try clear c5
       try clear q5
       try clear c6
       try clear p6
       try clear q6
       try clear c7
       try clear q7
       try clear c8
       try clear q8
       try clear c9
       try clear q9
       try clear c10
       try clear q10
       try clear q11
       try clear p15
       try clear q15
       try clear hx15
       try clear p16
       try clear q16
       try clear hx16
       try clear qi16
       try clear c24
       try clear c24b0
       try clear c25
       try clear c26
       try clear c27
       try clear c28
       try clear c31
       try clear c32
       try clear c51
       try clear c52
       try clear c53
       try clear c54
       try clear c56
       try clear c56b0
       try clear c56b1
       try clear c57
       try clear c58
       try clear c59
       try clear c60
       try clear c62
       try clear c63
       try clear c64
       try clear p64
       try clear c66
       try clear c67
       try clear c69
       try clear c71
       try clear c71b0
       try clear c71b1
       try clear c72
       try clear c72b0
       try clear c72b1
       try clear c73
       try clear c73b0
       try clear c73b1
       try clear c75
       try clear c76
       try clear c77
       try clear c78
       try clear c80
       try clear c81
       try clear c82
       try clear c90
       try clear c91
       try clear c94
       try clear c95
       try clear c96
       try clear c97
       try clear c99
       try clear c100
       try clear c101
       try clear c103
       try clear c103b0
       try clear c103b1
       try clear hz102
       try clear hz55
       try clear hz61
       try clear hz65
       try clear hz68
       try clear hz70
       try clear hz79
       try clear hz83
       try clear hz89
       try clear hz92
       try clear hz98
       try clear hx158_0
       try clear hx158_1
       try clear hx158_2
       try clear hx158_3
       try clear hx166_0
       try clear hx167_0
       try clear p158
       try clear p166
       try clear p167
       try clear q158
       try clear q166
       try clear q167
       obtain ⟨kq, x116_92, rfl, HA, HJ92, HO_10, BK143, BK144, BK145, BK148, BK154, HB⟩ := hcut
       cases kq with
       | zero => exact absurd HA.out (by simp [bounds_bound.j1])
       | succ kj92 =>
        have H := HA.out
        clear HA
        simp only [bounds_bound.j1] at H
        by_cases c104 : x116_92 = true
        ·
         subst c104
         rw [if_pos rfl] at H
         by_cases c105 : 0 < (x10_1.length : Int)
         case neg => rw [if_neg c105] at H; exact absurd H (by simp)
         rw [if_pos c105] at H
         have c105b0 : decide (0 < (x10_1.length : Int)) = true := decide_eq_true c105
         have c105b1 : decide (0 < x10_1.length) = true := decide_eq_true (by omega)
         clear c105
         replace H := Option.bind_eq_some_iff.mp H
         obtain ⟨t170, A1060, H⟩ := H
         try dsimp only at H
         have A106 := Aside0.mk A1060
         clear A1060
         simp only [Option.some.injEq, Prod.mk.injEq] at H
         obtain ⟨rfl, rfl, rfl, rfl⟩ := H
         try go_wp2
         have n0_ := Aside0.mk (Kd.R_drew HO_10.out)
         have n1_ := Aside0.mk (blk_drew BK143.out)
         have n2_ := Aside0.mk (blk_drew BK144.out)
         have n3_ := Aside0.mk (blk_drew BK145.out)
         have n4_ := Aside0.mk (blk_drew BK148.out)
         have n5_ := Aside0.mk (blk_drew BK154.out)
         have n6_ := Aside0.mk (below_drew1 HB.out)
         clear HO_10
         clear BK143
         clear BK144
         clear BK145
         clear BK148
         clear BK154
         clear HB
         have HO_10 := n0_
         have BK143 := n1_
         have BK144 := n2_
         have BK145 := n3_
         have BK148 := n4_
         have BK154 := n5_
         have HB := n6_
         clear n0_ n1_ n2_ n3_ n4_ n5_ n6_
         obtain ⟨Ao108, co108, eo108⟩ := Kd.R_slice HO_10.out
         (first | subst eo108 | (injection eo108 with f1_ f2_ f3_; have f4_ := f1_.symm; have f5_ := f3_.symm; clear f1_ f2_ f3_; subst f4_; subst f5_))
         have p169 : 0 ≤ (0 : Int) := (by omega)
         have q169 : 0 < (x10_1.length : Int) := odA
         obtain ⟨ad169, e169, hx169_0⟩ := Kd.at_int (Kd.R_reads' HO_10.out).2.2 0 p169 q169
         cases e169
         have qi169 : (0 < x10_1.length) = True := eq_true (by omega)
         (try rw [show ((0 : Int)).toNat = 0 from rfl] at hx169_0)
         (try rw [Addr.add_zero'] at hx169_0)
         replace p169 := eq_true p169
         replace q169 := eq_true q169
         refine start_ (n := 8) (S := fun w' => w'.cell? ⟨gb143, 0, none⟩ = some (.int .i64 a0_0) ∧ w'.cell? ⟨gb143, 1, none⟩ = some (.slice A0_1 l0_1.length c0_1) ∧ w'.cell? ⟨gb143, 2, none⟩ = some (.string a0_2) ∧ w'.cell? ⟨gb143, 3, none⟩ = some (.int .i64 a0_3) ∧ w'.cell? ⟨gb143, 4, none⟩ = some (.slice A0_4 l0_4.length c0_4) ∧ w'.cell? ⟨gb143, 5, none⟩ = some (.int .i64 a0_5) ∧ w'.cell? ⟨gb143, 6, none⟩ = some (.int .i64 a0_6) ∧ w'.cell? ⟨gb143, 7, none⟩ = some (.int .i64 a0_7) ∧ w'.cell? ⟨gb143, 8, none⟩ = some (.slice A0_8 l0_8.length c0_8) ∧ w'.cell? ⟨gb143, 9, none⟩ = some (.slice A0_9 l0_9.length c0_9) ∧ w'.cell? ⟨gb143, 10, none⟩ = some (.int .i64 a0_10) ∧ w'.cell? ⟨gb143, 11, none⟩ = some (.int .i64 a0_11) ∧ w'.cell? ⟨gb143, 12, none⟩ = some (.int .i64 a0_12) ∧ w'.cell? ⟨gb143, 13, none⟩ = some (.slice A0_13 l0_13.length c0_13) ∧ w'.cell? ⟨gb143, 14, none⟩ = some (.slice A0_14 l0_14.length c0_14) ∧ w'.cell? ⟨gb143, 15, none⟩ = some (.slice A0_15 l0_15.length c0_15) ∧ w'.cell? ad169 = some (.int .i64 (rd x10_1 0))) (ds := []) #[O,O,O,O,O,O,O,O] (by kernel_rfl) rfl rfl ⟨(blk_cell BK143.out 0).trans rfl, (blk_cell BK143.out 1).trans rfl, (blk_cell BK143.out 2).trans rfl, (blk_cell BK143.out 3).trans rfl, (blk_cell BK143.out 4).trans rfl, (blk_cell BK143.out 5).trans rfl, (blk_cell BK143.out 6).trans rfl, (blk_cell BK143.out 7).trans rfl, (blk_cell BK143.out 8).trans rfl, (blk_cell BK143.out 9).trans rfl, (blk_cell BK143.out 10).trans rfl, (blk_cell BK143.out 11).trans rfl, (blk_cell BK143.out 12).trans rfl, (blk_cell BK143.out 13).trans rfl, (blk_cell BK143.out 14).trans rfl, (blk_cell BK143.out 15).trans rfl, hx169_0⟩ (fun hHeld => ?_); refine with_tabW bounds_bound.tab23 bounds_bound.bits23 (fun HT_ HW_ => ?_)
         generalize wc.drew = w107 at HO_10 BK143 BK144 BK145 BK148 BK154 HB hx169_0 hHeld ⊢
         refine pureA 0 119 #[J,O,O,O,O,O,O,O] ?_
         refine pureA 1 120 #[J,J,O,O,O,O,O,O] ?_
         refine pureA 3 122 #[J,J,O,J,O,O,O,O] ?_
         refine takeA 2 121 #[J,J,J,J,O,O,O,O] ?_
         refine takeA 4 123 #[J,J,J,J,J,O,O,O] ?_
         refine one_ (i := 5) (N := some 124) #[J,J,J,J,J,J,O,O] rfl rfl (one_of HT_.out (by kernel_rfl)) (by decide) (fun K hK => ?_)
         refine goes_ Try.func35 (by kernel_rfl) rfl #[.int .i64 (rd x10_1 0), .int .i64 a0_6] (by rfl) rfl rfl mapA ?_
         with_reducible refine (bounds_times.calls _ a0_6 t170 _ A106.out).mono ?_
         rintro e w' ⟨rfl, ⟨nd, rfl⟩⟩
         refine ⟨_, rfl, ?_⟩
         refine hK.out _ _ ⟨(blk_cell BK143.out 0).trans rfl, (blk_cell BK143.out 1).trans rfl, (blk_cell BK143.out 2).trans rfl, (blk_cell BK143.out 3).trans rfl, (blk_cell BK143.out 4).trans rfl, (blk_cell BK143.out 5).trans rfl, (blk_cell BK143.out 6).trans rfl, (blk_cell BK143.out 7).trans rfl, (blk_cell BK143.out 8).trans rfl, (blk_cell BK143.out 9).trans rfl, (blk_cell BK143.out 10).trans rfl, (blk_cell BK143.out 11).trans rfl, (blk_cell BK143.out 12).trans rfl, (blk_cell BK143.out 13).trans rfl, (blk_cell BK143.out 14).trans rfl, (blk_cell BK143.out 15).trans rfl, hHeld.2.2.2.2.2.2.2.2.2.2.2.2.2.2.2.2⟩ (fun hHeld => ?_)
         clear hK K
         refine norm_ (a' := ?_) ?_ ?_
         rotate_left
         ·
          show Act.put _ (some 124) _ = _
          simp only [Act.put, List.setIfInBounds_toArray, List.set_cons_zero, List.set_cons_succ, i64_w, i32_w]
          rfl
         refine pureA 6 125 #[J,J,J,J,J,J,J,O] ?_
         refine one_ (i := 7) (N := none) #[J,J,J,J,J,J,J,J] rfl rfl (one_of HT_.out (by kernel_rfl)) (by decide) (fun K hK => ?_)
         have hs109 : w107.cell? ⟨gb148, 2, none⟩ = some (.int .i64 0) := (blk_cell BK148.out 2).trans rfl
         have hfs109 := blk_frozen BK148.out 2
         have hns109_0 := NB143_148.out
         have hns109_1 := NB144_148.out
         have hns109_2 := NB145_148.out
         have hns109_4 := NB154_148.out
         have hms109_0 := NB148_143.out
         have hms109_1 := NB148_144.out
         have hms109_2 := NB148_145.out
         have hms109_4 := NB148_154.out
         refine skip_ (w1 := ?_) (by rfl) rfl ?_ ?_
         rotate_left
         ·
          go_simp
          rfl
         refine hK.out _ _ ⟨((cell_far (p := ⟨gb148, _, none⟩) NB143_148.out _).trans (hHeld.1)), ((cell_far (p := ⟨gb148, _, none⟩) NB143_148.out _).trans (hHeld.2.1)), ((cell_far (p := ⟨gb148, _, none⟩) NB143_148.out _).trans (hHeld.2.2.1)), ((cell_far (p := ⟨gb148, _, none⟩) NB143_148.out _).trans (hHeld.2.2.2.1)), ((cell_far (p := ⟨gb148, _, none⟩) NB143_148.out _).trans (hHeld.2.2.2.2.1)), ((cell_far (p := ⟨gb148, _, none⟩) NB143_148.out _).trans (hHeld.2.2.2.2.2.1)), ((cell_far (p := ⟨gb148, _, none⟩) NB143_148.out _).trans (hHeld.2.2.2.2.2.2.1)), ((cell_far (p := ⟨gb148, _, none⟩) NB143_148.out _).trans (hHeld.2.2.2.2.2.2.2.1)), ((cell_far (p := ⟨gb148, _, none⟩) NB143_148.out _).trans (hHeld.2.2.2.2.2.2.2.2.1)), ((cell_far (p := ⟨gb148, _, none⟩) NB143_148.out _).trans (hHeld.2.2.2.2.2.2.2.2.2.1)), ((cell_far (p := ⟨gb148, _, none⟩) NB143_148.out _).trans (hHeld.2.2.2.2.2.2.2.2.2.2.1)), ((cell_far (p := ⟨gb148, _, none⟩) NB143_148.out _).trans (hHeld.2.2.2.2.2.2.2.2.2.2.2.1)), ((cell_far (p := ⟨gb148, _, none⟩) NB143_148.out _).trans (hHeld.2.2.2.2.2.2.2.2.2.2.2.2.1)), ((cell_far (p := ⟨gb148, _, none⟩) NB143_148.out _).trans (hHeld.2.2.2.2.2.2.2.2.2.2.2.2.2.1)), ((cell_far (p := ⟨gb148, _, none⟩) NB143_148.out _).trans (hHeld.2.2.2.2.2.2.2.2.2.2.2.2.2.2.1)), ((cell_far (p := ⟨gb148, _, none⟩) NB143_148.out _).trans (hHeld.2.2.2.2.2.2.2.2.2.2.2.2.2.2.2.1)), ((cell_far (p := ⟨gb148, _, none⟩) (by have hne_ := Kd.own_blk (Kd.R_ne HO_10.out BK148.out (by decide)); first | exact hne_ | exact far_add hne_) _).trans (hHeld.2.2.2.2.2.2.2.2.2.2.2.2.2.2.2.2))⟩ (fun hHeld => ?_)
         clear hK K
         refine done_ (done_of HT_.out (by kernel_rfl)) ?_
         have hnb110 := NB148_143.out
         have hnc110 := NB143_148.out
         have hnb111 := NB148_144.out
         have hnc111 := NB144_148.out
         have hnb112 := NB148_145.out
         have hnc112 := NB145_148.out
         have hnb113 := NB148_154.out
         have hnc113 := NB154_148.out
         have hz114 := blk4 BK148.out
         have hnb115 := NB145_143.out
         have hnc115 := NB143_145.out
         have hnb116 := NB145_144.out
         have hnc116 := NB144_145.out
         have hnb117 := NB145_154.out
         have hnc117 := NB154_145.out
         have hz118 := blk4 BK145.out
         try go_wp2
         refine bodyPost_ret (results_cell_row rfl _ _ gb145 37 #[.int .i64 (wrap64 (x149000_1 + t146)), .int .i64 (wrap64 (x149001_1 + t147)), .int .i64 t170, .int .i64 x149003_1] (0, 0) _ rfl (blk_move BK145.out) Try.underlying37 rfl (by kernel_rfl)) rfl ?_
         exact ⟨by first | rfl | (simp [errW_none, errW_some] <;> rfl) | (simp [*, errW_none, errW_some] <;> rfl), belowA⟩
        ·
         replace c104 := Bool.eq_false_iff.mpr c104
         subst c104
         rw [if_neg (show ¬ (false = true) by decide)] at H
         by_cases c119 : a0_0 = 6
         ·
          rw [if_pos c119] at H
          have c119b0 : (a0_0 == 6) = true := beq_iff_eq.mpr c119
          have c119b1 : (a0_0 != 6) = false := bne_eq_false_iff_eq.mpr c119
          clear c119
          by_cases c120 : 0 < (x10_1.length : Int)
          case neg => rw [if_neg c120] at H; exact absurd H (by simp)
          rw [if_pos c120] at H
          have c120b0 : decide (0 < (x10_1.length : Int)) = true := decide_eq_true c120
          have c120b1 : decide (0 < x10_1.length) = true := decide_eq_true (by omega)
          clear c120
          by_cases c121 : 1 < (x10_1.length : Int)
          case neg => rw [if_neg c121] at H; exact absurd H (by simp)
          rw [if_pos c121] at H
          have c121b0 : decide (1 < (x10_1.length : Int)) = true := decide_eq_true c121
          have c121b1 : decide (1 < x10_1.length) = true := decide_eq_true (by omega)
          clear c121
          replace H := Option.bind_eq_some_iff.mp H
          obtain ⟨t173, A1220, H⟩ := H
          try dsimp only at H
          have A122 := Aside0.mk A1220
          clear A1220
          replace H := Option.bind_eq_some_iff.mp H
          obtain ⟨t174, A1230, H⟩ := H
          try dsimp only at H
          have A123 := Aside0.mk A1230
          clear A1230
          simp only [Option.some.injEq, Prod.mk.injEq] at H
          obtain ⟨rfl, rfl, rfl, rfl⟩ := H
          try go_wp2
          have n0_ := Aside0.mk (Kd.R_drew HO_10.out)
          have n1_ := Aside0.mk (blk_drew BK143.out)
          have n2_ := Aside0.mk (blk_drew BK144.out)
          have n3_ := Aside0.mk (blk_drew BK145.out)
          have n4_ := Aside0.mk (blk_drew BK148.out)
          have n5_ := Aside0.mk (blk_drew BK154.out)
          have n6_ := Aside0.mk (below_drew1 HB.out)
          clear HO_10
          clear BK143
          clear BK144
          clear BK145
          clear BK148
          clear BK154
          clear HB
          have HO_10 := n0_
          have BK143 := n1_
          have BK144 := n2_
          have BK145 := n3_
          have BK148 := n4_
          have BK154 := n5_
          have HB := n6_
          clear n0_ n1_ n2_ n3_ n4_ n5_ n6_
          obtain ⟨Ao125, co125, eo125⟩ := Kd.R_slice HO_10.out
          (first | subst eo125 | (injection eo125 with f1_ f2_ f3_; have f4_ := f1_.symm; have f5_ := f3_.symm; clear f1_ f2_ f3_; subst f4_; subst f5_))
          have p171 : 0 ≤ (0 : Int) := (by omega)
          have q171 : 0 < (x10_1.length : Int) := odA
          obtain ⟨ad171, e171, hx171_0⟩ := Kd.at_int (Kd.R_reads' HO_10.out).2.2 0 p171 q171
          cases e171
          have qi171 : (0 < x10_1.length) = True := eq_true (by omega)
          (try rw [show ((0 : Int)).toNat = 0 from rfl] at hx171_0)
          (try rw [Addr.add_zero'] at hx171_0)
          replace p171 := eq_true p171
          replace q171 := eq_true q171
          have p172 : 0 ≤ (1 : Int) := (by omega)
          have q172 : 1 < (x10_1.length : Int) := odA
          obtain ⟨ad172, e172, hx172_0⟩ := Kd.at_int (Kd.R_reads' HO_10.out).2.2 1 p172 q172
          obtain rfl : ad171 = ad172 := (by injection e172)
          (try simp only [show (1 : Int).toNat = 1 from rfl, Nat.reduceMul, Nat.reduceEqDiff, Go.Addr.add, ↓reduceIte] at hx172_0)
          have qi172 : (1 < x10_1.length) = True := eq_true (by omega)
          (try rw [show ((1 : Int)).toNat = 1 from rfl] at hx172_0)
          replace p172 := eq_true p172
          replace q172 := eq_true q172
          refine start_ (n := 16) (S := fun w' => w'.cell? ⟨gb143, 0, none⟩ = some (.int .i64 a0_0) ∧ w'.cell? ⟨gb143, 1, none⟩ = some (.slice A0_1 l0_1.length c0_1) ∧ w'.cell? ⟨gb143, 2, none⟩ = some (.string a0_2) ∧ w'.cell? ⟨gb143, 3, none⟩ = some (.int .i64 a0_3) ∧ w'.cell? ⟨gb143, 4, none⟩ = some (.slice A0_4 l0_4.length c0_4) ∧ w'.cell? ⟨gb143, 5, none⟩ = some (.int .i64 a0_5) ∧ w'.cell? ⟨gb143, 6, none⟩ = some (.int .i64 a0_6) ∧ w'.cell? ⟨gb143, 7, none⟩ = some (.int .i64 a0_7) ∧ w'.cell? ⟨gb143, 8, none⟩ = some (.slice A0_8 l0_8.length c0_8) ∧ w'.cell? ⟨gb143, 9, none⟩ = some (.slice A0_9 l0_9.length c0_9) ∧ w'.cell? ⟨gb143, 10, none⟩ = some (.int .i64 a0_10) ∧ w'.cell? ⟨gb143, 11, none⟩ = some (.int .i64 a0_11) ∧ w'.cell? ⟨gb143, 12, none⟩ = some (.int .i64 a0_12) ∧ w'.cell? ⟨gb143, 13, none⟩ = some (.slice A0_13 l0_13.length c0_13) ∧ w'.cell? ⟨gb143, 14, none⟩ = some (.slice A0_14 l0_14.length c0_14) ∧ w'.cell? ⟨gb143, 15, none⟩ = some (.slice A0_15 l0_15.length c0_15) ∧ w'.cell? ad171 = some (.int .i64 (rd x10_1 0)) ∧ w'.cell? ⟨ad171.block, ad171.off + 1, none⟩ = some (.int .i64 (rd x10_1 1))) (ds := []) #[O,O,O,O,O,O,O,O,O,O,O,O,O,O,O,O] (by kernel_rfl) rfl rfl ⟨(blk_cell BK143.out 0).trans rfl, (blk_cell BK143.out 1).trans rfl, (blk_cell BK143.out 2).trans rfl, (blk_cell BK143.out 3).trans rfl, (blk_cell BK143.out 4).trans rfl, (blk_cell BK143.out 5).trans rfl, (blk_cell BK143.out 6).trans rfl, (blk_cell BK143.out 7).trans rfl, (blk_cell BK143.out 8).trans rfl, (blk_cell BK143.out 9).trans rfl, (blk_cell BK143.out 10).trans rfl, (blk_cell BK143.out 11).trans rfl, (blk_cell BK143.out 12).trans rfl, (blk_cell BK143.out 13).trans rfl, (blk_cell BK143.out 14).trans rfl, (blk_cell BK143.out 15).trans rfl, hx171_0, hx172_0⟩ (fun hHeld => ?_); refine with_tabW bounds_bound.tab25 bounds_bound.bits25 (fun HT_ HW_ => ?_)
          generalize wc.drew = w124 at HO_10 BK143 BK144 BK145 BK148 BK154 HB hx171_0 hx172_0 hHeld ⊢
          refine pureA 0 128 #[J,O,O,O,O,O,O,O,O,O,O,O,O,O,O,O] ?_
          refine pureA 1 129 #[J,J,O,O,O,O,O,O,O,O,O,O,O,O,O,O] ?_
          refine pureA 3 131 #[J,J,O,J,O,O,O,O,O,O,O,O,O,O,O,O] ?_
          refine pureA 4 132 #[J,J,O,J,J,O,O,O,O,O,O,O,O,O,O,O] ?_
          refine pureA 7 135 #[J,J,O,J,J,O,O,J,O,O,O,O,O,O,O,O] ?_
          refine pureA 9 137 #[J,J,O,J,J,O,O,J,O,J,O,O,O,O,O,O] ?_
          refine takeA 2 130 #[J,J,J,J,J,O,O,J,O,J,O,O,O,O,O,O] ?_
          refine takeA 5 133 #[J,J,J,J,J,J,O,J,O,J,O,O,O,O,O,O] ?_
          refine takeA 8 136 #[J,J,J,J,J,J,O,J,J,J,O,O,O,O,O,O] ?_
          refine takeA 10 138 #[J,J,J,J,J,J,O,J,J,J,J,O,O,O,O,O] ?_
          refine pureA 11 139 #[J,J,J,J,J,J,O,J,J,J,J,J,O,O,O,O] ?_
          refine pureA 12 140 #[J,J,J,J,J,J,O,J,J,J,J,J,J,O,O,O] ?_
          refine one_ (i := 6) (N := some 134) #[J,J,J,J,J,J,J,J,J,J,J,J,J,O,O,O] rfl rfl (one_of HT_.out (by kernel_rfl)) (by decide) (fun K hK => ?_)
          refine goes_ Try.func35 (by kernel_rfl) rfl #[.int .i64 (rd x10_1 0), .int .i64 (rd x10_1 1)] (by rfl) rfl rfl mapA ?_
          with_reducible refine (bounds_times.calls _ _ t173 _ A122.out).mono ?_
          rintro e w' ⟨rfl, ⟨nd, rfl⟩⟩
          refine ⟨_, rfl, ?_⟩
          refine hK.out _ _ ⟨(blk_cell BK143.out 0).trans rfl, (blk_cell BK143.out 1).trans rfl, (blk_cell BK143.out 2).trans rfl, (blk_cell BK143.out 3).trans rfl, (blk_cell BK143.out 4).trans rfl, (blk_cell BK143.out 5).trans rfl, (blk_cell BK143.out 6).trans rfl, (blk_cell BK143.out 7).trans rfl, (blk_cell BK143.out 8).trans rfl, (blk_cell BK143.out 9).trans rfl, (blk_cell BK143.out 10).trans rfl, (blk_cell BK143.out 11).trans rfl, (blk_cell BK143.out 12).trans rfl, (blk_cell BK143.out 13).trans rfl, (blk_cell BK143.out 14).trans rfl, (blk_cell BK143.out 15).trans rfl, hHeld.2.2.2.2.2.2.2.2.2.2.2.2.2.2.2.2.1, hHeld.2.2.2.2.2.2.2.2.2.2.2.2.2.2.2.2.2⟩ (fun hHeld => ?_)
          clear hK K
          refine norm_ (a' := ?_) ?_ ?_
          rotate_left
          ·
           show Act.put _ (some 134) _ = _
           simp only [Act.put, List.setIfInBounds_toArray, List.set_cons_zero, List.set_cons_succ, i64_w, i32_w]
           rfl
          refine one_ (i := 13) (N := some 141) #[J,J,J,J,J,J,J,J,J,J,J,J,J,J,O,O] rfl rfl (one_of HT_.out (by kernel_rfl)) (by decide) (fun K hK => ?_)
          refine goes_ Try.func35 (by kernel_rfl) rfl #[.int .i64 t173, .int .i64 (wrap64 ((wrap64 (a0_10 + a0_11)) + 2))] (by rfl) rfl rfl mapA ?_
          with_reducible refine (bounds_times.calls t173 (wrap64 ((wrap64 (a0_10 + a0_11)) + 2)) t174 _ A123.out).mono ?_
          rintro e w' ⟨rfl, ⟨nd, rfl⟩⟩
          refine ⟨_, rfl, ?_⟩
          refine hK.out _ _ ⟨(blk_cell BK143.out 0).trans rfl, (blk_cell BK143.out 1).trans rfl, (blk_cell BK143.out 2).trans rfl, (blk_cell BK143.out 3).trans rfl, (blk_cell BK143.out 4).trans rfl, (blk_cell BK143.out 5).trans rfl, (blk_cell BK143.out 6).trans rfl, (blk_cell BK143.out 7).trans rfl, (blk_cell BK143.out 8).trans rfl, (blk_cell BK143.out 9).trans rfl, (blk_cell BK143.out 10).trans rfl, (blk_cell BK143.out 11).trans rfl, (blk_cell BK143.out 12).trans rfl, (blk_cell BK143.out 13).trans rfl, (blk_cell BK143.out 14).trans rfl, (blk_cell BK143.out 15).trans rfl, hHeld.2.2.2.2.2.2.2.2.2.2.2.2.2.2.2.2.1, hHeld.2.2.2.2.2.2.2.2.2.2.2.2.2.2.2.2.2⟩ (fun hHeld => ?_)
          clear hK K
          refine norm_ (a' := ?_) ?_ ?_
          rotate_left
          ·
           show Act.put _ (some 141) _ = _
           simp only [Act.put, List.setIfInBounds_toArray, List.set_cons_zero, List.set_cons_succ, i64_w, i32_w]
           rfl
          refine pureA 14 142 #[J,J,J,J,J,J,J,J,J,J,J,J,J,J,J,O] ?_
          refine one_ (i := 15) (N := none) #[J,J,J,J,J,J,J,J,J,J,J,J,J,J,J,J] rfl rfl (one_of HT_.out (by kernel_rfl)) (by decide) (fun K hK => ?_)
          have hs126 : w124.cell? ⟨gb148, 2, none⟩ = some (.int .i64 0) := (blk_cell BK148.out 2).trans rfl
          have hfs126 := blk_frozen BK148.out 2
          have hns126_0 := NB143_148.out
          have hns126_1 := NB144_148.out
          have hns126_2 := NB145_148.out
          have hns126_4 := NB154_148.out
          have hms126_0 := NB148_143.out
          have hms126_1 := NB148_144.out
          have hms126_2 := NB148_145.out
          have hms126_4 := NB148_154.out
          refine skip_ (w1 := ?_) (by rfl) rfl ?_ ?_
          rotate_left
          ·
           go_simp
           rfl
          refine hK.out _ _ ⟨((cell_far (p := ⟨gb148, _, none⟩) NB143_148.out _).trans (hHeld.1)), ((cell_far (p := ⟨gb148, _, none⟩) NB143_148.out _).trans (hHeld.2.1)), ((cell_far (p := ⟨gb148, _, none⟩) NB143_148.out _).trans (hHeld.2.2.1)), ((cell_far (p := ⟨gb148, _, none⟩) NB143_148.out _).trans (hHeld.2.2.2.1)), ((cell_far (p := ⟨gb148, _, none⟩) NB143_148.out _).trans (hHeld.2.2.2.2.1)), ((cell_far (p := ⟨gb148, _, none⟩) NB143_148.out _).trans (hHeld.2.2.2.2.2.1)), ((cell_far (p := ⟨gb148, _, none⟩) NB143_148.out _).trans (hHeld.2.2.2.2.2.2.1)), ((cell_far (p := ⟨gb148, _, none⟩) NB143_148.out _).trans (hHeld.2.2.2.2.2.2.2.1)), ((cell_far (p := ⟨gb148, _, none⟩) NB143_148.out _).trans (hHeld.2.2.2.2.2.2.2.2.1)), ((cell_far (p := ⟨gb148, _, none⟩) NB143_148.out _).trans (hHeld.2.2.2.2.2.2.2.2.2.1)), ((cell_far (p := ⟨gb148, _, none⟩) NB143_148.out _).trans (hHeld.2.2.2.2.2.2.2.2.2.2.1)), ((cell_far (p := ⟨gb148, _, none⟩) NB143_148.out _).trans (hHeld.2.2.2.2.2.2.2.2.2.2.2.1)), ((cell_far (p := ⟨gb148, _, none⟩) NB143_148.out _).trans (hHeld.2.2.2.2.2.2.2.2.2.2.2.2.1)), ((cell_far (p := ⟨gb148, _, none⟩) NB143_148.out _).trans (hHeld.2.2.2.2.2.2.2.2.2.2.2.2.2.1)), ((cell_far (p := ⟨gb148, _, none⟩) NB143_148.out _).trans (hHeld.2.2.2.2.2.2.2.2.2.2.2.2.2.2.1)), ((cell_far (p := ⟨gb148, _, none⟩) NB143_148.out _).trans (hHeld.2.2.2.2.2.2.2.2.2.2.2.2.2.2.2.1)), ((cell_far (p := ⟨gb148, _, none⟩) (by have hne_ := Kd.own_blk (Kd.R_ne HO_10.out BK148.out (by decide)); first | exact hne_ | exact far_add hne_) _).trans (hHeld.2.2.2.2.2.2.2.2.2.2.2.2.2.2.2.2.1)), ((cell_far (p := ⟨gb148, _, none⟩) (by have hne_ := Kd.own_blk (Kd.R_ne HO_10.out BK148.out (by decide)); first | exact hne_ | exact far_add hne_) _).trans (hHeld.2.2.2.2.2.2.2.2.2.2.2.2.2.2.2.2.2))⟩ (fun hHeld => ?_)
          clear hK K
          refine done_ (done_of HT_.out (by kernel_rfl)) ?_
          have hnb127 := NB148_143.out
          have hnc127 := NB143_148.out
          have hnb128 := NB148_144.out
          have hnc128 := NB144_148.out
          have hnb129 := NB148_145.out
          have hnc129 := NB145_148.out
          have hnb130 := NB148_154.out
          have hnc130 := NB154_148.out
          have hz131 := blk4 BK148.out
          have hnb132 := NB145_143.out
          have hnc132 := NB143_145.out
          have hnb133 := NB145_144.out
          have hnc133 := NB144_145.out
          have hnb134 := NB145_154.out
          have hnc134 := NB154_145.out
          have hz135 := blk4 BK145.out
          try go_wp2
          refine bodyPost_ret (results_cell_row rfl _ _ gb145 37 #[.int .i64 (wrap64 (x149000_1 + t146)), .int .i64 (wrap64 (x149001_1 + t147)), .int .i64 t174, .int .i64 x149003_1] (0, 0) _ rfl (blk_move BK145.out) Try.underlying37 rfl (by kernel_rfl)) rfl ?_
          exact ⟨by first | rfl | (simp [errW_none, errW_some] <;> rfl) | (simp [*, errW_none, errW_some] <;> rfl), belowA⟩
         ·
          rw [if_neg c119] at H
          have c119b0 : (a0_0 == 6) = false := beq_eq_false_iff_ne.mpr c119
          have c119b1 : (a0_0 != 6) = true := bne_iff_ne.mpr c119
          by_cases c136 : 0 < (x10_1.length : Int)
          case neg => rw [if_neg c136] at H; exact absurd H (by simp)
          rw [if_pos c136] at H
          have c136b0 : decide (0 < (x10_1.length : Int)) = true := decide_eq_true c136
          have c136b1 : decide (0 < x10_1.length) = true := decide_eq_true (by omega)
          clear c136
          simp only [Option.some.injEq, Prod.mk.injEq] at H
          obtain ⟨rfl, rfl, rfl, rfl⟩ := H
          obtain ⟨Ao137, co137, eo137⟩ := Kd.R_slice HO_10.out
          subst eo137
          have p175 : 0 ≤ (0 : Int) := (by omega)
          have q175 : 0 < (x10_1.length : Int) := odA
          obtain ⟨ad175, e175, hx175_0⟩ := Kd.at_int (Kd.R_reads' HO_10.out).2.2 0 p175 q175
          cases e175
          have qi175 : (0 < x10_1.length) = True := eq_true (by omega)
          (try rw [show ((0 : Int)).toNat = 0 from rfl] at hx175_0)
          (try rw [Addr.add_zero'] at hx175_0)
          replace p175 := eq_true p175
          replace q175 := eq_true q175
          have hnb138 := NB148_143.out
          have hnc138 := NB143_148.out
          have hnb139 := NB148_144.out
          have hnc139 := NB144_148.out
          have hnb140 := NB148_145.out
          have hnc140 := NB145_148.out
          have hnb141 := NB148_154.out
          have hnc141 := NB154_148.out
          have hz142 := blk4 BK148.out
          have hnb143 := NB145_143.out
          have hnc143 := NB143_145.out
          have hnb144 := NB145_144.out
          have hnc144 := NB144_145.out
          have hnb145 := NB145_154.out
          have hnc145 := NB154_145.out
          have hz146 := blk4 BK145.out
          go_wp2
          refine bodyPost_ret (results_cell_row rfl _ _ gb145 37 #[.int .i64 (wrap64 (x149000_1 + t146)), .int .i64 (wrap64 (x149001_1 + t147)), .int .i64 (rd x10_1 0), .int .i64 x149003_1] (0, 0) _ rfl (blk_move BK145.out) Try.underlying37 rfl (by kernel_rfl)) rfl ?_
          exact ⟨by first | rfl | (simp [errW_none, errW_some] <;> rfl) | (simp [*, errW_none, errW_some] <;> rfl), belowA⟩

end Go.Proofs.Yteoljddobfnfiaa.PB
end
section
namespace Go.Proofs.Yteoljddobfnfiaa.Pure
open Go.RowKit Go.Proofs.YteoljddobfnfiaaW.PrintWords Go.Proofs.YteoljddobfnfiaaW.PrintLast Go.Proofs.YteoljddobfnfiaaW.PrintMore Go.Proofs.Yteoljddobfnfiaa.PB
set_option linter.unusedVariables false
set_option linter.unusedSimpArgs false

theorem mx_le {a b c : Int} (h1 : a ≤ c) (h2 : b ≤ c) : mx a b ≤ c := by unfold mx; split <;> assumption
theorem le_mx {a b c : Int} (h1 : c ≤ a) : c ≤ mx a b := by unfold mx; split <;> omega
theorem mn_le (a b : Int) : mn a b ≤ b := by unfold mn; split <;> omega
theorem le_mn {a b c : Int} (h1 : c ≤ a) (h2 : c ≤ b) : c ≤ mn a b := by unfold mn; split <;> omega
theorem mul_pos1 {a b : Int} (h1 : 1 ≤ a) (h2 : 1 ≤ b) : 1 ≤ a * b := by
  have := Int.mul_le_mul h1 h2 (by omega) (by omega)
  omega
theorem mul_nn {a b : Int} (h1 : 0 ≤ a) (h2 : 0 ≤ b) : 0 ≤ a * b := Int.mul_nonneg h1 h2

theorem times_eq {a b : Int} (ha : 0 ≤ a) (hm : a ≤ 1099511627776) (hb : 0 ≤ b) : bounds_times.f a b = some (mn (a * b) 1099511627776) := by
  unfold bounds_times.f
  by_cases h0 : a = 0
  · subst h0
    rw [if_pos rfl, Int.zero_mul, wrap_id (by omega) (by omega)]
    unfold mn
    rw [if_neg (by omega)]
  · rw [if_neg h0, Int.tdiv_eq_ediv_of_nonneg (by omega)]
    have hq : (1099511627776 : Int) / a ≤ 1099511627776 := Int.ediv_le_self _ (by omega)
    have hq0 : 0 ≤ (1099511627776 : Int) / a := Int.ediv_nonneg (by omega) (by omega)
    rw [wrap_id (by omega) (by omega)]
    by_cases h1 : b > 1099511627776 / a
    · rw [if_pos h1]
      have : 1099511627776 < b * a := (Int.ediv_lt_iff_lt_mul (by omega)).1 h1
      rw [Int.mul_comm b a] at this
      unfold mn
      rw [if_pos this]
    · rw [if_neg h1]
      have : b * a ≤ 1099511627776 := (Int.le_ediv_iff_mul_le (by omega)).1 (by omega)
      rw [Int.mul_comm b a] at this
      have h2 := mul_nn ha hb
      rw [wrap_id (by omega) (by omega)]
      unfold mn
      rw [if_neg (by omega)]
theorem plus_eq {a b : Int} (ha : 0 ≤ a) (hm : a ≤ 1099511627776) (hb : 0 ≤ b) (hn : b ≤ 1099511627776) : bounds_plus.f a b = some (mn (a + b) 1099511627776) := by
  unfold bounds_plus.f
  rw [wrap_id (by omega) (by omega)]

def backOf (bs : List S37) (l : List Int) (b : Int) : Int := l.foldl (fun s x => mx s (rd_T37 bs x).f0) b
def foreOf (bs : List S37) (l : List Int) (b : Int) : Int := l.foldl (fun s x => mx s (rd_T37 bs x).f1) b
def stOf (bs : List S37) (c5 o : Int) (l : List Int) (b : Int) : Int := l.foldl (fun s x => mn (s + mn ((rd_T37 bs x).f2 * (c5 + (rd_T37 bs x).f1 + o)) 1099511627776) 1099511627776) b
def rateOf (bs : List S37) (c0 c4 : Int) (n : S44) : Int :=
  if n.f0 = 0 then c0 * c4
  else if n.f0 = 3 then mn ((rd_T37 bs (rd n.f1 0)).f2 + (rd_T37 bs (rd n.f1 1)).f2) 1099511627776
  else if n.f0 = 4 ∨ n.f0 = 5 then mn ((rd_T37 bs (rd n.f1 0)).f2 * n.f6) 1099511627776
  else if n.f0 = 6 then mn (mn ((rd_T37 bs (rd n.f1 0)).f2 * (rd_T37 bs (rd n.f1 1)).f2) 1099511627776 * (n.f10 + n.f11 + 2)) 1099511627776
  else (rd_T37 bs (rd n.f1 0)).f2
def boundOf (bs : List S37) (c0 c4 c5 : Int) (n : S44) : S37 :=
  ⟨backOf bs n.f1 0 + ownB n, foreOf bs n.f1 0 + ownF n, rateOf bs c0 c4 n, if 4 ≤ n.f0 then stOf bs c5 (ownB n) n.f1 0 else 0⟩

def okB (i : Int) (b : S37) : Prop := (0 ≤ b.f0 ∧ b.f0 ≤ 10000 * i) ∧ (0 ≤ b.f1 ∧ b.f1 ≤ 10000 * i) ∧ (1 ≤ b.f2 ∧ b.f2 ≤ 1099511627776) ∧ 0 ≤ b.f3 ∧ b.f3 ≤ 1099511627776
def pre (i : Int) (bs : List S37) : Prop := (bs.length : Int) = i ∧ ∀ b ∈ bs, okB i b
theorem rd37_at {l : List S37} {i : Nat} (h : i < l.length) : rd_T37 l (i : Int) = l[i] := by
  unfold rd_T37
  simp [List.getD_eq_getElem?_getD, List.getElem?_eq_getElem h]
theorem pre_at {i x : Int} {bs : List S37} (h : pre i bs) (h0 : 0 ≤ x) (h1 : x < i) : okB i (rd_T37 bs x) := by
  have hx : x.toNat < bs.length := by have := h.1; omega
  have e : ((x.toNat : Nat) : Int) = x := Int.toNat_of_nonneg h0
  rw [← e, rd37_at hx]
  exact h.2 _ (List.getElem_mem hx)
theorem okIn_mem {i : Int} {l : List Int} (h : okIn i l = true) {x : Int} (hx : x ∈ l) : 0 ≤ x ∧ x < i := by
  have := List.all_eq_true.1 h x hx
  exact of_decide_eq_true this
theorem backOf_range {i : Int} {bs : List S37} (h : pre i bs) : ∀ (l : List Int) (b : Int), okIn i l = true → (0 ≤ b ∧ b ≤ 10000 * i) → 0 ≤ backOf bs l b ∧ backOf bs l b ≤ 10000 * i
  | [], b, _, hb => hb
  | x :: l, b, hl, hb => by
    have hx := okIn_mem hl (List.mem_cons_self)
    have ho := pre_at h hx.1 hx.2
    exact backOf_range h l _ (by rw [okIn_cons] at hl; exact (Bool.and_eq_true_iff.1 hl).2) ⟨le_mx hb.1, mx_le hb.2 ho.1.2⟩
theorem foreOf_range {i : Int} {bs : List S37} (h : pre i bs) : ∀ (l : List Int) (b : Int), okIn i l = true → (0 ≤ b ∧ b ≤ 10000 * i) → 0 ≤ foreOf bs l b ∧ foreOf bs l b ≤ 10000 * i
  | [], b, _, hb => hb
  | x :: l, b, hl, hb => by
    have hx := okIn_mem hl (List.mem_cons_self)
    have ho := pre_at h hx.1 hx.2
    exact foreOf_range h l _ (by rw [okIn_cons] at hl; exact (Bool.and_eq_true_iff.1 hl).2) ⟨le_mx hb.1, mx_le hb.2 ho.2.1.2⟩
theorem stOf_range {i c5 o : Int} {bs : List S37} (h : pre i bs) (hc : 0 ≤ c5) (ho : 0 ≤ o) : ∀ (l : List Int) (b : Int), okIn i l = true → (0 ≤ b ∧ b ≤ 1099511627776) → 0 ≤ stOf bs c5 o l b ∧ stOf bs c5 o l b ≤ 1099511627776
  | [], b, _, hb => hb
  | x :: l, b, hl, hb => by
    have hx := okIn_mem hl (List.mem_cons_self)
    have hk := pre_at h hx.1 hx.2
    have h1 : 0 ≤ (rd_T37 bs x).f2 * (c5 + (rd_T37 bs x).f1 + o) := mul_nn (by have := hk.2.2.1.1; omega) (by have := hk.2.1.1; omega)
    have h2 := le_mn h1 (show (0 : Int) ≤ 1099511627776 by omega)
    exact stOf_range h hc ho l _ (by rw [okIn_cons] at hl; exact (Bool.and_eq_true_iff.1 hl).2) ⟨le_mn (by omega) (by omega), mn_le _ _⟩
theorem node_ins {i : Int} {n : S44} (h : okNode i n = true) : (0 ≤ n.f0 ∧ n.f0 ≤ 8) ∧ (n.f1.length : Int) = ins n.f0 ∧ okIn i n.f1 = true := by
  unfold okNode at h
  simp only [Bool.and_eq_true, decide_eq_true_eq] at h
  exact ⟨h.1, h.2.1, h.2.2⟩
theorem ins1 {n : S44} (h : (n.f1.length : Int) = ins n.f0) (h0 : n.f0 ≠ 0) : 0 < n.f1.length := by
  unfold ins at h
  rw [if_neg h0] at h
  split at h <;> omega
theorem ins2 {n : S44} (h : (n.f1.length : Int) = ins n.f0) (h0 : n.f0 = 3 ∨ n.f0 = 6 ∨ n.f0 = 7) : 1 < n.f1.length := by
  unfold ins at h
  rw [if_neg (by omega), if_pos h0] at h
  omega
theorem ins_le (op : Int) : ins op ≤ 2 := by unfold ins; split <;> (try split) <;> omega
theorem in_at {i : Int} {l : List Int} (h : okIn i l = true) {j : Nat} (hj : j < l.length) : 0 ≤ rd l (j : Int) ∧ rd l (j : Int) < i := by
  rw [rd_at hj]
  exact okIn_mem h (List.getElem_mem hj)
theorem rateOf_range {i c0 c4 : Int} {bs : List S37} {n : S44} (h : pre i bs) (hn : okNode i n = true) (hb : bdd n = true) (h0 : 1 ≤ c0 ∧ c0 ≤ 8) (h4 : 1 ≤ c4 ∧ c4 ≤ 20) : 1 ≤ rateOf bs c0 c4 n ∧ rateOf bs c0 c4 n ≤ 1099511627776 := by
  obtain ⟨ho, hi, hl⟩ := node_ins hn
  unfold rateOf
  by_cases e0 : n.f0 = 0
  · rw [if_pos e0]
    refine ⟨mul_pos1 h0.1 h4.1, ?_⟩
    have := Int.mul_le_mul h0.2 h4.2 (by omega) (by omega)
    omega
  rw [if_neg e0]
  have a0 := in_at hl (ins1 hi e0)
  have k0 := pre_at h a0.1 a0.2
  have k0' : okB i (rd_T37 bs (rd n.f1 0)) := k0
  by_cases e3 : n.f0 = 3
  · rw [if_pos e3]
    have a1 := in_at hl (ins2 hi (by omega))
    have k1' : okB i (rd_T37 bs (rd n.f1 1)) := pre_at h a1.1 a1.2
    exact ⟨le_mn (by have := k0'.2.2.1.1; have := k1'.2.2.1.1; omega) (by omega), mn_le _ _⟩
  rw [if_neg e3]
  by_cases e4 : n.f0 = 4 ∨ n.f0 = 5
  · rw [if_pos e4]
    have hs := bdd_size n hb (by omega)
    exact ⟨le_mn (mul_pos1 k0'.2.2.1.1 hs.1) (by omega), mn_le _ _⟩
  rw [if_neg e4]
  by_cases e6 : n.f0 = 6
  · rw [if_pos e6]
    have a1 := in_at hl (ins2 hi (by omega))
    have k1' : okB i (rd_T37 bs (rd n.f1 1)) := pre_at h a1.1 a1.2
    have hj := bdd_join n hb e6
    exact ⟨le_mn (mul_pos1 (le_mn (mul_pos1 k0'.2.2.1.1 k1'.2.2.1.1) (by omega)) (by omega)) (by omega), mn_le _ _⟩
  rw [if_neg e6]
  exact k0'.2.2.1
theorem boundOf_ok {i c0 c4 c5 : Int} {bs : List S37} {n : S44} (hi0 : 0 ≤ i) (h : pre i bs) (hn : okNode i n = true) (hb : bdd n = true) (h0 : 1 ≤ c0 ∧ c0 ≤ 8) (h4 : 1 ≤ c4 ∧ c4 ≤ 20) (h5 : 0 ≤ c5) : okB (i + 1) (boundOf bs c0 c4 c5 n) := by
  obtain ⟨ho, hi, hl⟩ := node_ins hn
  have r1 := backOf_range h n.f1 0 hl (by omega)
  have r2 := foreOf_range h n.f1 0 hl (by omega)
  have r3 := rateOf_range h hn hb h0 h4
  have w := own_range n
  have r4 := stOf_range h h5 w.1 n.f1 0 hl (by omega)
  unfold boundOf okB
  refine ⟨⟨by dsimp only; omega, by dsimp only; omega⟩, ⟨by dsimp only; omega, by dsimp only; omega⟩, r3, ?_⟩
  dsimp only
  split
  · exact r4
  · omega
theorem pre_snoc {i : Int} {bs : List S37} {b : S37} (h : pre i bs) (hb : okB (i + 1) b) : pre (i + 1) (bs ++ [b]) := by
  refine ⟨by have := h.1; simp; omega, fun x hx => ?_⟩
  rcases List.mem_append.1 hx with hx | hx
  · have := h.2 x hx
    unfold okB at this ⊢
    omega
  · rw [List.mem_singleton.1 hx]
    exact hb

theorem rd_map {g : Int → Int} {l : List Int} {j : Nat} (hj : j < l.length) : rd (l.map g) (j : Int) = g (rd l (j : Int)) := by
  rw [rd_at (by simpa using hj), rd_at hj]
  simp

theorem bound_end (k : Nat) {i c0 c1 c2 c3 c4 c5 : Int} {bs : List S37} (n : S44) (hn : okNode i n = true) (h : pre i bs) (hi : 0 ≤ i ∧ i ≤ 40) (hb : bdd n = true) (h0 : 1 ≤ c0 ∧ c0 ≤ 8) (h4 : 1 ≤ c4 ∧ c4 ≤ 20)
    (b f s o1 o2 : Int) (x0 x1 : Option Nat) (x2 : Int) (kp : Bool) (ho : 0 ≤ o1 ∧ o1 ≤ 10000) (ho2 : 0 ≤ o2 ∧ o2 ≤ 10000) (hbb : 0 ≤ b ∧ b ≤ 10000 * i) (hff : 0 ≤ f ∧ f ≤ 10000 * i) :
    bounds_bound.l0 (k + 2) bs o1 o2 (n.f1.map fun x => (rd_T37 bs x).f2) n.f1 (n.f1.length : Int) (n.f1.length : Int) n.f0 n.f1 n.f2 n.f3 n.f4 n.f5 n.f6 n.f7 n.f8 n.f9 n.f10 n.f11 n.f12 n.f13 n.f14 n.f15 c0 c1 c2 c3 c4 c5 b f 0 s x2 x0 x1 kp = some (b + o1, f + o2, rateOf bs c0 c4 n, s) := by
  obtain ⟨hop, hin, hl⟩ := node_ins hn
  have hr := rateOf_range h hn hb h0 h4
  simp only [bounds_bound.l0]
  rw [if_neg (Int.lt_irrefl _), wrap_id (n := b + o1) (by omega) (by omega), wrap_id (n := f + o2) (by omega) (by omega)]
  by_cases e0 : n.f0 = 0
  · have : rateOf bs c0 c4 n = c0 * c4 := by unfold rateOf; rw [if_pos e0]
    rw [if_pos e0, ← this, wrap_id (by omega) (by omega)]
  rw [if_neg e0]
  have l0 := ins1 hin e0
  have a0 := in_at hl l0
  have k0 : okB i (rd_T37 bs (rd n.f1 0)) := pre_at h a0.1 a0.2
  have m0 : rd (n.f1.map fun x => (rd_T37 bs x).f2) 0 = (rd_T37 bs (rd n.f1 0)).f2 := rd_map (g := fun x => (rd_T37 bs x).f2) l0
  have q0 : (0 : Int) < ((n.f1.map fun x => (rd_T37 bs x).f2).length : Int) := by rw [List.length_map]; omega
  by_cases e3 : n.f0 = 3
  · have l1 := ins2 hin (by omega)
    have a1 := in_at hl l1
    have k1 : okB i (rd_T37 bs (rd n.f1 1)) := pre_at h a1.1 a1.2
    have m1 : rd (n.f1.map fun x => (rd_T37 bs x).f2) 1 = (rd_T37 bs (rd n.f1 1)).f2 := rd_map (g := fun x => (rd_T37 bs x).f2) l1
    rw [if_pos e3, if_pos q0, if_pos (by rw [List.length_map]; omega), m0, m1, plus_eq (by have := k0.2.2.1; omega) k0.2.2.1.2 (by have := k1.2.2.1; omega) k1.2.2.1.2]
    have : rateOf bs c0 c4 n = mn ((rd_T37 bs (rd n.f1 0)).f2 + (rd_T37 bs (rd n.f1 1)).f2) 1099511627776 := by unfold rateOf; rw [if_neg e0, if_pos e3]
    rw [this]
    rfl
  rw [if_neg e3]
  by_cases e4 : n.f0 = 4 ∨ n.f0 = 5
  · have hs := bdd_size n hb (by omega)
    have hr' : rateOf bs c0 c4 n = mn ((rd_T37 bs (rd n.f1 0)).f2 * n.f6) 1099511627776 := by unfold rateOf; rw [if_neg e0, if_neg e3, if_pos e4]
    rcases e4 with e4 | e4
    · rw [if_pos e4]
      simp only [bounds_bound.j1]
      rw [if_pos (by rw [e4]; rfl), if_pos q0, m0, times_eq (by have := k0.2.2.1; omega) k0.2.2.1.2 (by omega), hr']
      rfl
    · rw [if_neg (by omega)]
      simp only [bounds_bound.j1]
      rw [if_pos (by rw [e4]; rfl), if_pos q0, m0, times_eq (by have := k0.2.2.1; omega) k0.2.2.1.2 (by omega), hr']
      rfl
  rw [if_neg (by omega)]
  simp only [bounds_bound.j1]
  rw [if_neg (by simp; omega)]
  by_cases e6 : n.f0 = 6
  · have l1 := ins2 hin (by omega)
    have a1 := in_at hl l1
    have k1 : okB i (rd_T37 bs (rd n.f1 1)) := pre_at h a1.1 a1.2
    have m1 : rd (n.f1.map fun x => (rd_T37 bs x).f2) 1 = (rd_T37 bs (rd n.f1 1)).f2 := rd_map (g := fun x => (rd_T37 bs x).f2) l1
    have hj := bdd_join n hb e6
    have hr' : rateOf bs c0 c4 n = mn (mn ((rd_T37 bs (rd n.f1 0)).f2 * (rd_T37 bs (rd n.f1 1)).f2) 1099511627776 * (n.f10 + n.f11 + 2)) 1099511627776 := by unfold rateOf; rw [if_neg e0, if_neg e3, if_neg e4, if_pos e6]
    have hp := mul_pos1 k0.2.2.1.1 k1.2.2.1.1
    rw [if_pos e6, if_pos q0, if_pos (by rw [List.length_map]; omega), m0, m1, times_eq (by have := k0.2.2.1; omega) k0.2.2.1.2 (by have := k1.2.2.1; omega), Option.bind_some,
      wrap_id (n := n.f10 + n.f11) (by omega) (by omega), wrap_id (n := n.f10 + n.f11 + 2) (by omega) (by omega), times_eq (le_mn (by omega) (by omega)) (mn_le _ _) (by omega), Option.bind_some, hr']
  rw [if_neg e6, if_pos q0, m0]
  have hr' : rateOf bs c0 c4 n = (rd_T37 bs (rd n.f1 0)).f2 := by unfold rateOf; rw [if_neg e0, if_neg e3, if_neg e4, if_neg e6]
  rw [hr']
theorem bound_l0 {i c0 c1 c2 c3 c4 c5 : Int} {bs : List S37} (n : S44) (hn : okNode i n = true) (h : pre i bs) (hi : 0 ≤ i ∧ i ≤ 40) (hb : bdd n = true) (h0 : 1 ≤ c0 ∧ c0 ≤ 8) (h4 : 1 ≤ c4 ∧ c4 ≤ 20) (h5 : 0 ≤ c5 ∧ c5 ≤ 30000)
    (o1 o2 : Int) (x0 x1 : Option Nat) (x2 : Int) (kp : Bool) (ho : 0 ≤ o1 ∧ o1 ≤ 10000) (ho2 : 0 ≤ o2 ∧ o2 ≤ 10000) : ∀ d j : Nat, j + d = n.f1.length → ∀ b f s : Int, (0 ≤ b ∧ b ≤ 10000 * i) → (0 ≤ f ∧ f ≤ 10000 * i) → (0 ≤ s ∧ s ≤ 1099511627776) →
    Ev (fun k => bounds_bound.l0 k bs o1 o2 ((n.f1.take j).map fun x => (rd_T37 bs x).f2) n.f1 (n.f1.length : Int) (j : Int) n.f0 n.f1 n.f2 n.f3 n.f4 n.f5 n.f6 n.f7 n.f8 n.f9 n.f10 n.f11 n.f12 n.f13 n.f14 n.f15 c0 c1 c2 c3 c4 c5 b f 0 s x2 x0 x1 kp)
      (backOf bs (n.f1.drop j) b + o1, foreOf bs (n.f1.drop j) f + o2, rateOf bs c0 c4 n, if kp = true then stOf bs c5 o1 (n.f1.drop j) s else s)
  | 0, j, hj, b, f, s, hbb, hff, hss => by
    have ej : j = n.f1.length := by omega
    subst ej
    refine ⟨2, fun k hk => ?_⟩
    obtain ⟨k, rfl⟩ := Nat.exists_eq_add_of_le' hk
    dsimp only
    rw [List.take_length, bound_end k n hn h hi hb h0 h4 b f s o1 o2 x0 x1 x2 kp ho ho2 hbb hff, List.drop_length]
    simp [backOf, foreOf, stOf]
  | d + 1, j, hj, b, f, s, hbb, hff, hss => by
    obtain ⟨hop, hin, hl⟩ := node_ins hn
    have hjl : j < n.f1.length := by omega
    have e : n.f1.drop j = n.f1[j] :: n.f1.drop (j + 1) := List.drop_eq_getElem_cons hjl
    have hx := okIn_mem hl (List.getElem_mem hjl)
    have hk := pre_at h hx.1 hx.2
    have il := ins_le n.f0
    have ht : ((n.f1.take j).map fun x => (rd_T37 bs x).f2) ++ [(rd_T37 bs n.f1[j]).f2] = (n.f1.take (j + 1)).map fun x => (rd_T37 bs x).f2 := by
      rw [List.take_succ_eq_append_getElem hjl, List.map_append]
      rfl
    have hm : 0 ≤ (rd_T37 bs n.f1[j]).f2 * (c5 + (rd_T37 bs n.f1[j]).f1 + o1) := mul_nn (by have := hk.2.2.1.1; omega) (by have := hk.2.1.1; omega)
    have hm2 := le_mn hm (show (0 : Int) ≤ 1099511627776 by omega)
    have hm3 := mn_le ((rd_T37 bs n.f1[j]).f2 * (c5 + (rd_T37 bs n.f1[j]).f1 + o1)) 1099511627776
    have hlen : ((n.f1.take j).map fun x => (rd_T37 bs x).f2).length < 17592186044416 := by rw [List.length_map, List.length_take]; omega
    cases kp with
    | true =>
      have ih := bound_l0 n hn h hi hb h0 h4 h5 o1 o2 x0 x1 x2 true ho ho2 d (j + 1) (by omega) (mx b (rd_T37 bs n.f1[j]).f0) (mx f (rd_T37 bs n.f1[j]).f1) (mn (s + mn ((rd_T37 bs n.f1[j]).f2 * (c5 + (rd_T37 bs n.f1[j]).f1 + o1)) 1099511627776) 1099511627776)
        ⟨le_mx hbb.1, mx_le hbb.2 hk.1.2⟩ ⟨le_mx hff.1, mx_le hff.2 hk.2.1.2⟩ ⟨le_mn (by omega) (by omega), mn_le _ _⟩ (c1 := c1) (c2 := c2) (c3 := c3)
      refine Ev.step (fun k => ?_) (by rw [e]; exact ih)
      simp only [bounds_bound.l0]
      rw [if_pos (by omega), if_pos (by omega), if_pos (by omega), rd_at hjl, if_pos hx.1, if_pos (by have := h.1; omega), if_pos hlen, Option.bind_some, if_pos trivial,
        wrap_id (n := c5 + _) (by have := hk.2.1; omega) (by have := hk.2.1; omega), wrap_id (n := c5 + _ + o1) (by have := hk.2.1; omega) (by have := hk.2.1; omega),
        times_eq (by have := hk.2.2.1; omega) hk.2.2.1.2 (by have := hk.2.1; omega), Option.bind_some, plus_eq hss.1 hss.2 hm2 hm3, Option.bind_some, wrap_id (n := (j : Int) + 1) (by omega) (by omega), ht, cast_succ]
    | false =>
      have ih := bound_l0 n hn h hi hb h0 h4 h5 o1 o2 x0 x1 x2 false ho ho2 d (j + 1) (by omega) (mx b (rd_T37 bs n.f1[j]).f0) (mx f (rd_T37 bs n.f1[j]).f1) s
        ⟨le_mx hbb.1, mx_le hbb.2 hk.1.2⟩ ⟨le_mx hff.1, mx_le hff.2 hk.2.1.2⟩ hss (c1 := c1) (c2 := c2) (c3 := c3)
      refine Ev.step (fun k => ?_) (by rw [e]; exact ih)
      simp only [bounds_bound.l0]
      rw [if_pos (by omega), if_pos (by omega), if_pos (by omega), rd_at hjl, if_pos hx.1, if_pos (by have := h.1; omega), if_pos hlen, Option.bind_some, if_neg (by decide), wrap_id (n := (j : Int) + 1) (by omega) (by omega), ht, cast_succ]
theorem bound_ev {i c0 c1 c2 c3 c4 c5 : Int} {bs : List S37} (n : S44) (hn : okNode i n = true) (h : pre i bs) (hi : 0 ≤ i ∧ i ≤ 40) (hb : bdd n = true) (h0 : 1 ≤ c0 ∧ c0 ≤ 8) (h4 : 1 ≤ c4 ∧ c4 ≤ 20) (h5 : 0 ≤ c5 ∧ c5 ≤ 30000) :
    Ev (fun k => bounds_bound.f k n.f0 n.f1 n.f2 n.f3 n.f4 n.f5 n.f6 n.f7 n.f8 n.f9 n.f10 n.f11 n.f12 n.f13 n.f14 n.f15 bs c0 c1 c2 c3 c4 c5) ((boundOf bs c0 c4 c5 n).f0, (boundOf bs c0 c4 c5 n).f1, (boundOf bs c0 c4 c5 n).f2, (boundOf bs c0 c4 c5 n).f3) := by
  obtain ⟨hop, hin, hl⟩ := node_ins hn
  have w := own_range n
  have := bound_l0 n hn h hi hb h0 h4 h5 (ownB n) (ownF n) (bounds_of.f n.f0).get!.2.1 (bounds_of.f n.f0).get!.2.2.1 (ins n.f0) (decide (4 ≤ n.f0 ∧ n.f0 ≤ 8)) ⟨w.1, w.2.1⟩ w.2.2 n.f1.length 0 (by omega) 0 0 0 (by omega) (by omega) (by omega) (c1 := c1) (c2 := c2) (c3 := c3)
  have e2 : (if decide (4 ≤ n.f0 ∧ n.f0 ≤ 8) = true then stOf bs c5 (ownB n) (n.f1.drop 0) 0 else 0) = (boundOf bs c0 c4 c5 n).f3 := by
    unfold boundOf
    dsimp only
    by_cases e : 4 ≤ n.f0
    · rw [if_pos (decide_eq_true ⟨e, hop.2⟩), if_pos e, List.drop_zero]
    · rw [if_neg (by simp; omega), if_neg e]
  rw [e2] at this
  refine Ev.congr (fun k => ?_) this
  unfold bounds_bound.f
  rw [Own_eq, Option.bind_some, of_eq, Option.bind_some, if_pos hop]
  rfl
end Go.Proofs.Yteoljddobfnfiaa.Pure
end
section
namespace Go.Proofs.Yteoljddobfnfiaa.PB
open Go.RowKit Go.Proofs.YteoljddobfnfiaaW.PrintWords Go.Proofs.YteoljddobfnfiaaW.PrintLast Go.Proofs.YteoljddobfnfiaaW.PrintMore
attribute [local go_sem] max2_int min2_int max_two min_two max_three min_three max_four min_four
attribute [local go_sem ↓ high] Go.Proofs.Yteoljddobfnfiaa.My.ld44_eq Go.Proofs.Yteoljddobfnfiaa.My.st44_eq Go.Proofs.Yteoljddobfnfiaa.My.ld27_eq Go.Proofs.Yteoljddobfnfiaa.My.st27_eq Go.Proofs.Yteoljddobfnfiaa.My.ld37_eq Go.Proofs.Yteoljddobfnfiaa.My.st37_eq Go.Proofs.Yteoljddobfnfiaa.My.ld65_eq Go.Proofs.Yteoljddobfnfiaa.My.st65_eq
attribute [local go_sem high] Go.Proofs.Yteoljddobfnfiaa.My.ld44_run Go.Proofs.Yteoljddobfnfiaa.My.st44_run Go.Proofs.Yteoljddobfnfiaa.My.ld27_run Go.Proofs.Yteoljddobfnfiaa.My.st27_run Go.Proofs.Yteoljddobfnfiaa.My.ld37_run Go.Proofs.Yteoljddobfnfiaa.My.st37_run Go.Proofs.Yteoljddobfnfiaa.My.ld65_run Go.Proofs.Yteoljddobfnfiaa.My.st65_run
open Go.Proofs.Yteoljddobfnfiaa.My
attribute [local go_sem] cell_map run_store_fnV one_int one_bool one_string one_slice one_fnV
set_option linter.unusedVariables false
set_option linter.unusedSimpArgs false

mutual
def bounds_Analyze.j0 : Nat → Bool → List (S95) → List (S44) → Int → Int → Int → Int → Int → Int → Option ((List (S37)) × Int × Int)
  | 0, _, _, _, _, _, _, _, _, _ => none
  | k + 1, x18, x177000, x177001, x178000, x178001, x178002, x178003, x178004, x178005 => if x18 = true then (some (([] : List (S37)), (-1), 2)) else (bounds_Analyze.l0 k ([] : List (S37)) x177001 (x177001.length : Int) 0 x178000 x178001 x178002 x178003 x178004 x178005)
def bounds_Analyze.l0 : Nat → List (S37) → List (S44) → Int → Int → Int → Int → Int → Int → Int → Int → Option ((List (S37)) × Int × Int)
  | 0, _, _, _, _, _, _, _, _, _, _ => none
  | k + 1, x7, x20, x21, x22, x178000, x178001, x178002, x178003, x178004, x178005 => if x22 < x21 then (if 0 ≤ x22 then (if x22 < (x20.length : Int) then ((bounds_Bounded.f ((rd_T44 x20 x22).f0) ((rd_T44 x20 x22).f1) ((rd_T44 x20 x22).f2) ((rd_T44 x20 x22).f3) ((rd_T44 x20 x22).f4) ((rd_T44 x20 x22).f5) ((rd_T44 x20 x22).f6) ((rd_T44 x20 x22).f7) ((rd_T44 x20 x22).f8) ((rd_T44 x20 x22).f9) ((rd_T44 x20 x22).f10) ((rd_T44 x20 x22).f11) ((rd_T44 x20 x22).f12) ((rd_T44 x20 x22).f13) ((rd_T44 x20 x22).f14) ((rd_T44 x20 x22).f15)).bind fun t182 => (if t182 = true then ((bounds_bound.f k ((rd_T44 x20 x22).f0) ((rd_T44 x20 x22).f1) ((rd_T44 x20 x22).f2) ((rd_T44 x20 x22).f3) ((rd_T44 x20 x22).f4) ((rd_T44 x20 x22).f5) ((rd_T44 x20 x22).f6) ((rd_T44 x20 x22).f7) ((rd_T44 x20 x22).f8) ((rd_T44 x20 x22).f9) ((rd_T44 x20 x22).f10) ((rd_T44 x20 x22).f11) ((rd_T44 x20 x22).f12) ((rd_T44 x20 x22).f13) ((rd_T44 x20 x22).f14) ((rd_T44 x20 x22).f15) x7 x178000 x178001 x178002 x178003 x178004 x178005).bind fun bt183 => (if bt183.2.2.1 ≥ 1099511627776 then (some (([] : List (S37)), x22, 14)) else (if bt183.2.2.2 ≥ 1099511627776 then (some (([] : List (S37)), x22, 14)) else (if x7.length < 4398046511104 then (bounds_Analyze.l0 k (x7 ++ [(⟨bt183.1, bt183.2.1, bt183.2.2.1, bt183.2.2.2⟩ : S37)]) x20 x21 (wrap64 (x22 + 1)) x178000 x178001 x178002 x178003 x178004 x178005) else (none))))) else (some (([] : List (S37)), x22, 14)))) else (none)) else (none)) else (some (x7, (-1), 0))
end
def bounds_Analyze.f (k : Nat) (l0_0 : List (S95)) (l0_1 : List (S44)) (a1_0 : Int) (a1_1 : Int) (a1_2 : Int) (a1_3 : Int) (a1_4 : Int) (a1_5 : Int) : Option ((List (S37)) × Int × Int) := (bounds_RightConfig.f a1_0 a1_1 a1_2 a1_3 a1_4 a1_5).bind fun t178 => (if t178 = true then ((bounds_Well.f k l0_0 l0_1).bind fun t179 => (bounds_Analyze.j0 k (!t179) l0_0 l0_1 a1_0 a1_1 a1_2 a1_3 a1_4 a1_5)) else (bounds_Analyze.j0 k true l0_0 l0_1 a1_0 a1_1 a1_2 a1_3 a1_4 a1_5))
theorem bounds_Analyze.mono_l : ∀ k, (∀ y0 y1 y2 y3 y4 y5 y6 y7 y8, LeO (bounds_Analyze.j0 k y0 y1 y2 y3 y4 y5 y6 y7 y8) (bounds_Analyze.j0 (k + 1) y0 y1 y2 y3 y4 y5 y6 y7 y8)) ∧ (∀ y0 y1 y2 y3 y4 y5 y6 y7 y8 y9, LeO (bounds_Analyze.l0 k y0 y1 y2 y3 y4 y5 y6 y7 y8 y9) (bounds_Analyze.l0 (k + 1) y0 y1 y2 y3 y4 y5 y6 y7 y8 y9))
  | 0 => ⟨fun _ _ _ _ _ _ _ _ _ r h => by simp [bounds_Analyze.j0] at h, fun _ _ _ _ _ _ _ _ _ _ r h => by simp [bounds_Analyze.l0] at h⟩
  | k + 1 => by
    obtain ⟨ih0, ih1⟩ := bounds_Analyze.mono_l k
    refine ⟨?_, ?_⟩
    · intro y0 y1 y2 y3 y4 y5 y6 y7 y8
      unfold bounds_Analyze.j0
      repeat' first
      | (with_reducible first | exact ih0 _ _ _ _ _ _ _ _ _ | exact ih1 _ _ _ _ _ _ _ _ _ _ | exact bounds_Well.mono _ _ _ | exact bounds_bound.mono _ _ _ _ _ _ _ _ _ _ _ _ _ _ _ _ _ _ _ _ _ _ _ _ | exact LeO.refl _ | exact LeO.none _ | refine LeO.ite ?_ ?_ | refine LeO.bind ?_ (fun _ => ?_))
      | exact ih0 _ _ _ _ _ _ _ _ _ | exact ih1 _ _ _ _ _ _ _ _ _ _ | exact bounds_Well.mono _ _ _ | exact bounds_bound.mono _ _ _ _ _ _ _ _ _ _ _ _ _ _ _ _ _ _ _ _ _ _ _ _ | exact LeO.none _ | refine LeO.ite ?_ ?_ | refine LeO.bind ?_ (fun _ => ?_)
    · intro y0 y1 y2 y3 y4 y5 y6 y7 y8 y9
      unfold bounds_Analyze.l0
      repeat' first
      | (with_reducible first | exact ih0 _ _ _ _ _ _ _ _ _ | exact ih1 _ _ _ _ _ _ _ _ _ _ | exact bounds_Well.mono _ _ _ | exact bounds_bound.mono _ _ _ _ _ _ _ _ _ _ _ _ _ _ _ _ _ _ _ _ _ _ _ _ | exact LeO.refl _ | exact LeO.none _ | refine LeO.ite ?_ ?_ | refine LeO.bind ?_ (fun _ => ?_))
      | exact ih0 _ _ _ _ _ _ _ _ _ | exact ih1 _ _ _ _ _ _ _ _ _ _ | exact bounds_Well.mono _ _ _ | exact bounds_bound.mono _ _ _ _ _ _ _ _ _ _ _ _ _ _ _ _ _ _ _ _ _ _ _ _ | exact LeO.none _ | refine LeO.ite ?_ ?_ | refine LeO.bind ?_ (fun _ => ?_)
theorem bounds_Analyze.mono : ∀ a0 a1 a2 a3 a4 a5 a6 a7 k, LeO (bounds_Analyze.f k a0 a1 a2 a3 a4 a5 a6 a7) (bounds_Analyze.f (k + 1) a0 a1 a2 a3 a4 a5 a6 a7) := by
  intro a0 a1 a2 a3 a4 a5 a6 a7 k
  obtain ⟨ih0, ih1⟩ := bounds_Analyze.mono_l k
  unfold bounds_Analyze.f
  repeat' first
      | (with_reducible first | exact ih0 _ _ _ _ _ _ _ _ _ | exact ih1 _ _ _ _ _ _ _ _ _ _ | exact bounds_Well.mono _ _ _ | exact bounds_bound.mono _ _ _ _ _ _ _ _ _ _ _ _ _ _ _ _ _ _ _ _ _ _ _ _ | exact LeO.refl _ | exact LeO.none _ | refine LeO.ite ?_ ?_ | refine LeO.bind ?_ (fun _ => ?_))
      | exact ih0 _ _ _ _ _ _ _ _ _ | exact ih1 _ _ _ _ _ _ _ _ _ _ | exact bounds_Well.mono _ _ _ | exact bounds_bound.mono _ _ _ _ _ _ _ _ _ _ _ _ _ _ _ _ _ _ _ _ _ _ _ _ | exact LeO.none _ | refine LeO.ite ?_ ?_ | refine LeO.bind ?_ (fun _ => ?_)
set_option maxHeartbeats 8000000 in
set_option maxRecDepth 100000 in
theorem bounds_Analyze.calls (k : Nat) (A0_0 : Option Addr) (c0_0 : Nat) (l0_0 : List (S95)) (A0_1 : Option Addr) (c0_1 : Nat) (l0_1 : List (S44)) (a1_0 : Int) (a1_1 : Int) (a1_2 : Int) (a1_3 : Int) (a1_4 : Int) (a1_5 : Int) (r1 : List (S37)) (r2 : Int) (r3 : Int) (w : World) (hr0_0 : Kd.C k95 w A0_0 l0_0.length l0_0) (hc0_0 : l0_0.length ≤ c0_0) (hr0_1 : Kd.C k44 w A0_1 l0_1.length l0_1) (hc0_1 : l0_1.length ≤ c0_1) (h : bounds_Analyze.f k l0_0 l0_1 a1_0 a1_1 a1_2 a1_3 a1_4 a1_5 = some (r1, r2, r3)) :
    Calls Try.prog 9 #[.agg #[.slice A0_0 l0_0.length c0_0, .slice A0_1 l0_1.length c0_1], .agg #[.int .i64 a1_0, .int .i64 a1_1, .int .i64 a1_2, .int .i64 a1_3, .int .i64 a1_4, .int .i64 a1_5]] w fun e w' => ∃ v0_ : Value, e = .returned (.tuple #[v0_, .int .i64 r2, .int .i64 r3]) ∧ Kd.R k37 37 w' w.heap.size (fun _ => True) v0_ r1 ∧ Below w.heap.size w w' := by
 have hu25 := Try.underlying25
 have hu27 := Try.underlying27
 have hu44 := Try.underlying44
 have hu37 := Try.underlying37
 have HR0_0 := Aside0.mk hr0_0
 have HC0_0 := Aside0.mk hc0_0
 clear hr0_0 hc0_0
 have HR0_1 := Aside0.mk hr0_1
 have HC0_1 := Aside0.mk hc0_1
 clear hr0_1 hc0_1
 have HB := Aside0.mk (Below.refl w.heap.size w)
 have H : ((bounds_RightConfig.f a1_0 a1_1 a1_2 a1_3 a1_4 a1_5).bind fun t178 => (if t178 = true then ((bounds_Well.f k l0_0 l0_1).bind fun t179 => (bounds_Analyze.j0 k (!t179) l0_0 l0_1 a1_0 a1_1 a1_2 a1_3 a1_4 a1_5)) else (bounds_Analyze.j0 k true l0_0 l0_1 a1_0 a1_1 a1_2 a1_3 a1_4 a1_5))) = some (r1, r2, r3) := h
 clear h
 have HC3 := Aside0.mk H
 clear H
 go_enter Try.func9, Try.ntmps9
 go_upto_region 1 with (first | ((with_reducible refine gate_dst (N := 2) rfl ?_); refine box_event ?hg (N := 2) ?hd (cs := #[.slice A0_0 l0_0.length c0_0, .slice A0_1 l0_1.length c0_1]) (t := 25) ?hr ?_; (case hd => rfl); (case hg => rfl); (case hr => first | (go_simp; done) | (go_simp; rfl)); intro gb176 hg w4 hbox hb; have BK176 := Aside0.mk (hbox); have GW176 := Aside0.mk ((by rw [hg]; exact below_sizeA : w.heap.size ≤ gb176)); have GE176 := GW176; replace HB := Aside0.mk (below_stepA hb); clear hb hbox hg) | ((with_reducible refine gate_dst (N := 3) rfl ?_); refine box_event ?hg (N := 3) ?hd (cs := #[.int .i64 a1_0, .int .i64 a1_1, .int .i64 a1_2, .int .i64 a1_3, .int .i64 a1_4, .int .i64 a1_5]) (t := 27) ?hr ?_; (case hd => rfl); (case hg => rfl); (case hr => first | (go_simp; done) | (go_simp; rfl)); intro gb177 hg w5 hbox hb; have BK177 := Aside0.mk (hbox); have GW177 := Aside0.mk ((by rw [hg]; exact below_sizeA : w.heap.size ≤ gb177)); have GE177 := GW177; have NB176_177 := Aside0.mk ((by rw [hg]; exact Nat.ne_of_lt (blk_ltKA BK176.out) : gb176 ≠ gb177)); have NB177_176 := Aside0.mk NB176_177.out.symm; replace BK176 := Aside0.mk (blk_keepA BK176.out hb); replace HB := Aside0.mk (below_stepA hb); clear hb hbox hg))
 (try simp only [Act.put, List.setIfInBounds_toArray, List.set_cons_zero, List.set_cons_succ])
 go_cut [18] (fun v18 wc => ∃ (kq : Nat) (x18_2 : Bool), v18 = .bool x18_2 ∧ Aside0 (bounds_Analyze.j0 kq x18_2 l0_0 l0_1 a1_0 a1_1 a1_2 a1_3 a1_4 a1_5 = some (r1, r2, r3)) ∧ Aside0 (kq ≤ k) ∧ Aside0 (wc.heap[gb176]? = some (.cells #[(.slice A0_0 l0_0.length c0_0), (.slice A0_1 l0_1.length c0_1)] 25 (0, 0))) ∧ Aside0 (wc.heap[gb177]? = some (.cells #[.int .i64 a1_0, .int .i64 a1_1, .int .i64 a1_2, .int .i64 a1_3, .int .i64 a1_4, .int .i64 a1_5] 27 (0, 0))) ∧ Aside0 (Below w.heap.size w wc))
 case first =>
  have H := HC3.out
  clear HC3
  replace H := Option.bind_eq_some_iff.mp H
  obtain ⟨t178, A60, H⟩ := H
  try dsimp only at H
  have A6 := Aside0.mk A60
  clear A60
  by_cases c7 : t178 = true
  ·
   subst c7
   rw [if_pos rfl] at H
   replace H := Option.bind_eq_some_iff.mp H
   obtain ⟨t179, A80, H⟩ := H
   try dsimp only at H
   have A8 := Aside0.mk A80
   clear A80
   have H' := Aside0.mk H
   clear H
   have hnb9 := NB177_176.out
   have hnc9 := NB176_177.out
   have hz10 := blk6 BK177.out
   go_wp2_with (first | ((with_reducible refine gate_callee (f := 19) rfl ?_); refine goesL_ (some 12) rfl rfl Try.func19 (by kernel_rfl) rfl #[.agg #[.int .i64 a1_0, .int .i64 a1_1, .int .i64 a1_2, .int .i64 a1_3, .int .i64 a1_4, .int .i64 a1_5]] rfl mapA ?_; (with_reducible refine (bounds_RightConfig.calls a1_0 a1_1 a1_2 a1_3 a1_4 a1_5 true _ A6.out).mono ?_); rintro e w11 ⟨rfl, hb⟩; refine ⟨_, rfl, ?_⟩; replace BK176 := Aside0.mk (blk_keepA BK176.out hb); replace BK177 := Aside0.mk (blk_keepA BK177.out hb); replace HB := Aside0.mk (below_stepA hb); (try clear hb); have hz12 := blk2 BK176.out) | (go_at_call 21; (with_reducible refine (bounds_Well.calls k _ _ l0_0 _ _ l0_1 t179 _ (c_belowA HR0_0.out) HC0_0.out (c_belowA HR0_1.out) HC0_1.out A8.out).mono ?_); rintro e w13 ⟨rfl, hb⟩; replace BK176 := Aside0.mk (blk_keepA BK176.out hb); replace BK177 := Aside0.mk (blk_keepA BK177.out hb); replace HB := Aside0.mk (below_stepA hb); (try clear hb)))
   go_meet
   case rel => exact ⟨_, (!t179), (by first | rfl | (simp; done) | (simp [*]; done)), H', ⟨by first | omega | exact Nat.le_refl _⟩, ⟨blk_move BK176.out⟩, ⟨blk_move BK177.out⟩, ⟨by repeat (first | (with_reducible first | exact HB.out | apply below_alloc | apply pw_below_drewN | apply below_drew1 | refine below_set ?_ GE176.out | refine below_set ?_ GE177.out) | exact HB.out)⟩⟩
  ·
   replace c7 := Bool.eq_false_iff.mpr c7
   subst c7
   rw [if_neg (show ¬ (false = true) by decide)] at H
   have H' := Aside0.mk H
   clear H
   have hnb14 := NB177_176.out
   have hnc14 := NB176_177.out
   have hz15 := blk6 BK177.out
   go_wp2_with (first | ((with_reducible refine gate_callee (f := 19) rfl ?_); refine goesL_ (some 12) rfl rfl Try.func19 (by kernel_rfl) rfl #[.agg #[.int .i64 a1_0, .int .i64 a1_1, .int .i64 a1_2, .int .i64 a1_3, .int .i64 a1_4, .int .i64 a1_5]] rfl mapA ?_; (with_reducible refine (bounds_RightConfig.calls a1_0 a1_1 a1_2 a1_3 a1_4 a1_5 false _ A6.out).mono ?_); rintro e w16 ⟨rfl, hb⟩; refine ⟨_, rfl, ?_⟩; replace BK176 := Aside0.mk (blk_keepA BK176.out hb); replace BK177 := Aside0.mk (blk_keepA BK177.out hb); replace HB := Aside0.mk (below_stepA hb); (try clear hb)))
   go_meet
   case rel => exact ⟨_, (true), (by first | rfl | (simp; done) | (simp [*]; done)), H', ⟨by first | omega | exact Nat.le_refl _⟩, ⟨blk_move BK176.out⟩, ⟨blk_move BK177.out⟩, ⟨by repeat (first | (with_reducible first | exact HB.out | apply below_alloc | apply pw_below_drewN | apply below_drew1 | refine below_set ?_ GE176.out | refine below_set ?_ GE177.out) | exact HB.out)⟩⟩
 case rest =>
  clear HC3
  try clear c1
  try clear p2
  try clear c7
  try clear c9
  try clear c14
  try clear hz10
  try clear hz12
  try clear hz15
  obtain ⟨kq, x18_2, rfl, HA, HJ2, BK176, BK177, HB⟩ := hcut
  cases kq with
  | zero => exact absurd HA.out (by simp [bounds_Analyze.j0])
  | succ kj2 =>
   have H := HA.out
   clear HA
   simp only [bounds_Analyze.j0] at H
   by_cases c17 : x18_2 = true
   ·
    subst c17
    rw [if_pos rfl] at H
    simp only [Option.some.injEq, Prod.mk.injEq] at H
    obtain ⟨rfl, rfl, rfl⟩ := H
    go_wp2
    go_ret3
    exact ⟨_, by first | rfl | (simp [errW_none, errW_some] <;> rfl) | (simp [*, errW_none, errW_some] <;> rfl), by first | exact Kd.R_nil _ _ _ _ _ | exact Kd.N_nil _ _ _ _ _ | exact Kd.V_nil _ _ _ _ _ | exact Kd.Q_nil _ _ _ _ _ | exact Kd.S_nil _ _ _ _ _, belowA⟩
   ·
    replace c17 := Bool.eq_false_iff.mpr c17
    subst c17
    rw [if_neg (show ¬ (false = true) by decide)] at H
    have H' := Aside0.mk H
    clear H
    have hnb18 := NB176_177.out
    have hnc18 := NB177_176.out
    have hz19 := blk2 BK176.out
    go_wp2
    go_loopg [7, 22] kj2 (fun kq v7 v22 w' => ∃ (x7_2 : List (S37)) (x22_2 : Int), v22 = .int .i64 x22_2 ∧ Aside0 (bounds_Analyze.l0 kq x7_2 l0_1 (l0_1.length : Int) x22_2 a1_0 a1_1 a1_2 a1_3 a1_4 a1_5 = some (r1, r2, r3)) ∧ Aside0 (kq ≤ kj2) ∧ Aside0 (Kd.R k37 37 w' w.heap.size (fun _ => True) v7 x7_2) ∧ Aside0 (w'.heap[gb176]? = some (.cells #[(.slice A0_0 l0_0.length c0_0), (.slice A0_1 l0_1.length c0_1)] 25 (0, 0))) ∧ Aside0 (w'.heap[gb177]? = some (.cells #[.int .i64 a1_0, .int .i64 a1_1, .int .i64 a1_2, .int .i64 a1_3, .int .i64 a1_4, .int .i64 a1_5] 27 (0, 0))) ∧ Aside0 (Below w.heap.size w w'))
    case atStart => exact ⟨(([] : List (S37))), (0), (by first | rfl | (simp; done) | (simp [*]; done)), H', ⟨Nat.le_refl _⟩, ⟨by first | exact Kd.R_nil _ _ _ _ _ | exact Kd.N_nil _ _ _ _ _ | exact Kd.V_nil _ _ _ _ _ | exact Kd.Q_nil _ _ _ _ _ | exact Kd.S_nil _ _ _ _ _⟩, ⟨blk_move BK176.out⟩, ⟨blk_move BK177.out⟩, ⟨by repeat (first | (with_reducible first | exact HB.out | apply below_alloc | apply pw_below_drewN | apply below_drew1 | refine below_set ?_ GE176.out | refine below_set ?_ GE177.out) | exact HB.out)⟩⟩
    case round =>
     clear H'
     try clear c1
     try clear p2
     try clear c7
     try clear c9
     try clear c14
     try clear c17
     try clear c18
     try clear c19
     try clear hz10
     try clear hz12
     try clear hz15
     try clear hz19
     try clear p2
     obtain ⟨x7_2, x22_2, rfl, HA, HK2, HO_7, BK176, BK177, HB⟩ := hrel
     cases gk with
     | zero => exact absurd HA.out (by simp [bounds_Analyze.l0])
     | succ k2 =>
      have H := HA.out
      clear HA
      simp only [bounds_Analyze.l0] at H
      by_cases c20 : x22_2 < (l0_1.length : Int)
      ·
       rw [if_pos c20] at H
       have c20b0 : decide (x22_2 < (l0_1.length : Int)) = true := decide_eq_true c20
       clear c20
       by_cases c21 : 0 ≤ x22_2
       case neg => rw [if_neg c21] at H; exact absurd H (by simp)
       rw [if_pos c21] at H
       have c21b0 : decide (0 ≤ x22_2) = true := decide_eq_true c21
       clear c21
       by_cases c22 : x22_2 < (l0_1.length : Int)
       case neg => rw [if_neg c22] at H; exact absurd H (by simp)
       rw [if_pos c22] at H
       have c22b0 : decide (x22_2 < (l0_1.length : Int)) = true := decide_eq_true c22
       clear c22
       replace H := Option.bind_eq_some_iff.mp H
       obtain ⟨t182, A230, H⟩ := H
       try dsimp only at H
       have A23 := Aside0.mk A230
       clear A230
       by_cases c24 : t182 = true
       ·
        subst c24
        rw [if_pos rfl] at H
        replace H := Option.bind_eq_some_iff.mp H
        obtain ⟨⟨t183, t184, t185, t186⟩, A250, H⟩ := H
        try dsimp only at H
        have A25 := Aside0.mk A250
        clear A250
        by_cases c26 : t185 ≥ 1099511627776
        ·
         rw [if_pos c26] at H
         have c26b0 : decide (1099511627776 ≤ t185) = true := decide_eq_true c26
         clear c26
         simp only [Option.some.injEq, Prod.mk.injEq] at H
         obtain ⟨rfl, rfl, rfl⟩ := H
         have p180 : 0 ≤ (x22_2 : Int) := odA
         have q180 : x22_2 < (l0_1.length : Int) := odA
         obtain ⟨ad180, A180_1, c180_1, A180_4, c180_4, A180_8, c180_8, A180_9, c180_9, A180_13, c180_13, A180_14, c180_14, A180_15, c180_15, e180, hx180_0, hx180_1, hx180_2, hx180_3, hx180_4, hx180_5, hx180_6, hx180_7, hx180_8, hx180_9, hx180_10, hx180_11, hx180_12, hx180_13, hx180_14, hx180_15, hl180_1, hi180_1, hl180_4, hi180_4, hl180_8, hi180_8, hl180_9, hi180_9, hl180_13, hi180_13, hl180_14, hi180_14, hl180_15, hi180_15⟩ := at_T44 HR0_1.out x22_2 p180 q180
         cases e180
         replace hx180_0 := pw_cell_below HB.out hx180_0
         replace hx180_1 := pw_cell_below HB.out hx180_1
         replace hx180_2 := pw_cell_below HB.out hx180_2
         replace hx180_3 := pw_cell_below HB.out hx180_3
         replace hx180_4 := pw_cell_below HB.out hx180_4
         replace hx180_5 := pw_cell_below HB.out hx180_5
         replace hx180_6 := pw_cell_below HB.out hx180_6
         replace hx180_7 := pw_cell_below HB.out hx180_7
         replace hx180_8 := pw_cell_below HB.out hx180_8
         replace hx180_9 := pw_cell_below HB.out hx180_9
         replace hx180_10 := pw_cell_below HB.out hx180_10
         replace hx180_11 := pw_cell_below HB.out hx180_11
         replace hx180_12 := pw_cell_below HB.out hx180_12
         replace hx180_13 := pw_cell_below HB.out hx180_13
         replace hx180_14 := pw_cell_below HB.out hx180_14
         replace hx180_15 := pw_cell_below HB.out hx180_15
         have HR180_1 := Aside0.mk hi180_1
         have HC180_1 := Aside0.mk hl180_1
         clear hi180_1 hl180_1
         have HR180_4 := Aside0.mk hi180_4
         have HC180_4 := Aside0.mk hl180_4
         clear hi180_4 hl180_4
         have HR180_8 := Aside0.mk hi180_8
         have HC180_8 := Aside0.mk hl180_8
         clear hi180_8 hl180_8
         have HR180_9 := Aside0.mk hi180_9
         have HC180_9 := Aside0.mk hl180_9
         clear hi180_9 hl180_9
         have HR180_13 := Aside0.mk hi180_13
         have HC180_13 := Aside0.mk hl180_13
         clear hi180_13 hl180_13
         have HR180_14 := Aside0.mk hi180_14
         have HC180_14 := Aside0.mk hl180_14
         clear hi180_14 hl180_14
         have HR180_15 := Aside0.mk hi180_15
         have HC180_15 := Aside0.mk hl180_15
         clear hi180_15 hl180_15
         replace p180 := eq_true p180
         replace q180 := eq_true q180
         go_wp2_with (first | ((with_reducible refine gate_dst (N := 9) rfl ?_); refine box_event ?hg (N := 9) ?hd (cs := #[.int .i64 0, .slice none 0 0, .string (⟨#[]⟩ : ByteArray), .int .i64 0, .slice none 0 0, .int .i64 0, .int .i64 0, .int .i64 0, .slice none 0 0, .slice none 0 0, .int .i64 0, .int .i64 0, .int .i64 0, .slice none 0 0, .slice none 0 0, .slice none 0 0]) (t := 44) ?hr ?_; (case hd => rfl); (case hg => rfl); (case hr => first | (go_simp; done) | (go_simp; rfl)); intro gb181 hg w27 hbox hb; have BK181 := Aside0.mk (hbox); have GW181 := Aside0.mk ((by rw [hg]; exact below_sizeA : w.heap.size ≤ gb181)); have GE181 := GW181; have NB176_181 := Aside0.mk ((by rw [hg]; exact Nat.ne_of_lt (blk_ltKA BK176.out) : gb176 ≠ gb181)); have NB181_176 := Aside0.mk NB176_181.out.symm; have NB177_181 := Aside0.mk ((by rw [hg]; exact Nat.ne_of_lt (blk_ltKA BK177.out) : gb177 ≠ gb181)); have NB181_177 := Aside0.mk NB177_181.out.symm; replace HO_7 := Aside0.mk (r_belowA HO_7.out hb); replace BK176 := Aside0.mk (blk_keepA BK176.out hb); replace BK177 := Aside0.mk (blk_keepA BK177.out hb); replace HB := Aside0.mk (below_stepA hb); clear hb hbox hg; have hnb28 := NB181_176.out; have hnc28 := NB176_181.out; have hnb29 := NB181_177.out; have hnc29 := NB177_181.out; have hz30 := blk16 BK181.out) | ((with_reducible refine gate_callee (f := 12) rfl ?_); refine goesL_ (some 28) rfl rfl Try.func12 (by kernel_rfl) rfl #[.agg (A44 (rd_T44 l0_1 x22_2) A180_1 c180_1 A180_4 c180_4 A180_8 c180_8 A180_9 c180_9 A180_13 c180_13 A180_14 c180_14 A180_15 c180_15)] rfl mapA ?_; (with_reducible refine (bounds_Bounded.calls _ _ _ _ _ _ _ _ _ _ _ _ _ _ _ _ _ _ _ _ _ _ _ _ _ _ _ _ _ _ true _ (c_belowB HR180_1.out) HC180_1.out (c_belowB HR180_4.out) HC180_4.out (c_belowB HR180_8.out) HC180_8.out (c_belowB HR180_9.out) HC180_9.out (c_belowB HR180_13.out) HC180_13.out (c_belowB HR180_14.out) HC180_14.out (c_belowB HR180_15.out) HC180_15.out A23.out).mono ?_); rintro e w31 ⟨rfl, hb⟩; refine ⟨_, rfl, ?_⟩; replace HO_7 := Aside0.mk (r_belowT HO_7.out BK181.out hb); replace BK176 := Aside0.mk (blk_keepA BK176.out hb); replace BK177 := Aside0.mk (blk_keepA BK177.out hb); replace BK181 := Aside0.mk (blk_below (g := gb181) (o := .cells (A44 (rd_T44 l0_1 x22_2) A180_1 c180_1 A180_4 c180_4 A180_8 c180_8 A180_9 c180_9 A180_13 c180_13 A180_14 c180_14 A180_15 c180_15) 44 (0, 0)) (blk_move BK181.out) hb); replace HB := Aside0.mk (below_stepA hb); (try clear hb); have hz32 := blk16 BK181.out; have hnb33 := NB177_176.out; have hnc33 := NB176_177.out; have hz34 := blk6 BK177.out; obtain ⟨Ao35, co35, eo35⟩ := Kd.R_slice HO_7.out; subst eo35) | ((with_reducible refine gate_callee (f := 26) rfl ?_); refine goesL_ (some 34) rfl rfl Try.func26 (by kernel_rfl) rfl #[.agg (A44 (rd_T44 l0_1 x22_2) A180_1 c180_1 A180_4 c180_4 A180_8 c180_8 A180_9 c180_9 A180_13 c180_13 A180_14 c180_14 A180_15 c180_15), .slice Ao35 x7_2.length co35, .agg #[.int .i64 a1_0, .int .i64 a1_1, .int .i64 a1_2, .int .i64 a1_3, .int .i64 a1_4, .int .i64 a1_5]] rfl mapA ?_; (with_reducible refine (bounds_bound.calls k2 _ _ _ _ _ _ _ _ _ _ _ _ _ _ _ _ _ _ _ _ _ _ _ _ _ _ _ _ _ _ _ _ x7_2 a1_0 a1_1 a1_2 a1_3 a1_4 a1_5 t183 t184 t185 t186 _ (c_belowA HR180_1.out) HC180_1.out (c_belowA HR180_4.out) HC180_4.out (c_belowA HR180_8.out) HC180_8.out (c_belowA HR180_9.out) HC180_9.out (c_belowA HR180_13.out) HC180_13.out (c_belowA HR180_14.out) HC180_14.out (c_belowA HR180_15.out) HC180_15.out ?side15 ?side16 A25.out).mono ?_); (case side15 => repeat (first | exact (Kd.R_reads' HO_7.out).2.2 | (with_reducible refine Kd.C_alloc ?_ _) | (with_reducible refine Kd.C_drewN ?_ _) | (with_reducible refine Kd.C_drew ?_))); (case side16 => exact (Kd.R_reads' HO_7.out).2.1); rintro e w36 ⟨rfl, hb⟩; refine ⟨_, rfl, ?_⟩; replace HO_7 := Aside0.mk (r_belowA HO_7.out hb); replace BK176 := Aside0.mk (blk_keepA BK176.out hb); replace BK177 := Aside0.mk (blk_keepA BK177.out hb); replace BK181 := Aside0.mk (blk_keepA BK181.out hb); replace HB := Aside0.mk (below_stepA hb); (try clear hb)) | ((with_reducible refine gate_dst (N := 10) rfl ?_); refine box_event ?hg (N := 10) ?hd (cs := #[.int .i64 0, .int .i64 0, .int .i64 0, .int .i64 0]) (t := 37) ?hr ?_; (case hd => rfl); (case hg => rfl); (case hr => first | (go_simp; done) | (go_simp; rfl)); intro gb187 hg w37 hbox hb; have BK187 := Aside0.mk (hbox); have GW187 := Aside0.mk ((by rw [hg]; exact below_sizeA : w.heap.size ≤ gb187)); have GE187 := GW187; have NB176_187 := Aside0.mk ((by rw [hg]; exact Nat.ne_of_lt (blk_ltKA BK176.out) : gb176 ≠ gb187)); have NB187_176 := Aside0.mk NB176_187.out.symm; have NB177_187 := Aside0.mk ((by rw [hg]; exact Nat.ne_of_lt (blk_ltKA BK177.out) : gb177 ≠ gb187)); have NB187_177 := Aside0.mk NB177_187.out.symm; have NB181_187 := Aside0.mk ((by rw [hg]; exact Nat.ne_of_lt (blk_ltKA BK181.out) : gb181 ≠ gb187)); have NB187_181 := Aside0.mk NB181_187.out.symm; replace HO_7 := Aside0.mk (Kd.R_below (Kd.R_elderB (by (with_reducible repeat (first | apply Kd.R_alloc | apply Kd.R_drewN | apply Kd.R_drew)); exact HO_7.out) gb187 (Nat.le_of_eq hg.symm)) hb); replace BK176 := Aside0.mk (blk_keepA BK176.out hb); replace BK177 := Aside0.mk (blk_keepA BK177.out hb); replace BK181 := Aside0.mk (blk_keepA BK181.out hb); replace HB := Aside0.mk (below_stepA hb); clear hb hbox hg; have hnb38 := NB187_176.out; have hnc38 := NB176_187.out; have hnb39 := NB187_177.out; have hnc39 := NB177_187.out; have hnb40 := NB187_181.out; have hnc40 := NB181_187.out; have hz41 := blk4 BK187.out))
         go_ret3
         exact ⟨_, by first | rfl | (simp [errW_none, errW_some] <;> rfl) | (simp [*, errW_none, errW_some] <;> rfl), by first | exact Kd.R_nil _ _ _ _ _ | exact Kd.N_nil _ _ _ _ _ | exact Kd.V_nil _ _ _ _ _ | exact Kd.Q_nil _ _ _ _ _ | exact Kd.S_nil _ _ _ _ _, belowA⟩
        ·
         rw [if_neg c26] at H
         have c26b0 : decide (1099511627776 ≤ t185) = false := decide_eq_false c26
         clear c26
         by_cases c42 : t186 ≥ 1099511627776
         ·
          rw [if_pos c42] at H
          have c42b0 : decide (1099511627776 ≤ t186) = true := decide_eq_true c42
          clear c42
          simp only [Option.some.injEq, Prod.mk.injEq] at H
          obtain ⟨rfl, rfl, rfl⟩ := H
          have p180 : 0 ≤ (x22_2 : Int) := odA
          have q180 : x22_2 < (l0_1.length : Int) := odA
          obtain ⟨ad180, A180_1, c180_1, A180_4, c180_4, A180_8, c180_8, A180_9, c180_9, A180_13, c180_13, A180_14, c180_14, A180_15, c180_15, e180, hx180_0, hx180_1, hx180_2, hx180_3, hx180_4, hx180_5, hx180_6, hx180_7, hx180_8, hx180_9, hx180_10, hx180_11, hx180_12, hx180_13, hx180_14, hx180_15, hl180_1, hi180_1, hl180_4, hi180_4, hl180_8, hi180_8, hl180_9, hi180_9, hl180_13, hi180_13, hl180_14, hi180_14, hl180_15, hi180_15⟩ := at_T44 HR0_1.out x22_2 p180 q180
          cases e180
          replace hx180_0 := pw_cell_below HB.out hx180_0
          replace hx180_1 := pw_cell_below HB.out hx180_1
          replace hx180_2 := pw_cell_below HB.out hx180_2
          replace hx180_3 := pw_cell_below HB.out hx180_3
          replace hx180_4 := pw_cell_below HB.out hx180_4
          replace hx180_5 := pw_cell_below HB.out hx180_5
          replace hx180_6 := pw_cell_below HB.out hx180_6
          replace hx180_7 := pw_cell_below HB.out hx180_7
          replace hx180_8 := pw_cell_below HB.out hx180_8
          replace hx180_9 := pw_cell_below HB.out hx180_9
          replace hx180_10 := pw_cell_below HB.out hx180_10
          replace hx180_11 := pw_cell_below HB.out hx180_11
          replace hx180_12 := pw_cell_below HB.out hx180_12
          replace hx180_13 := pw_cell_below HB.out hx180_13
          replace hx180_14 := pw_cell_below HB.out hx180_14
          replace hx180_15 := pw_cell_below HB.out hx180_15
          have HR180_1 := Aside0.mk hi180_1
          have HC180_1 := Aside0.mk hl180_1
          clear hi180_1 hl180_1
          have HR180_4 := Aside0.mk hi180_4
          have HC180_4 := Aside0.mk hl180_4
          clear hi180_4 hl180_4
          have HR180_8 := Aside0.mk hi180_8
          have HC180_8 := Aside0.mk hl180_8
          clear hi180_8 hl180_8
          have HR180_9 := Aside0.mk hi180_9
          have HC180_9 := Aside0.mk hl180_9
          clear hi180_9 hl180_9
          have HR180_13 := Aside0.mk hi180_13
          have HC180_13 := Aside0.mk hl180_13
          clear hi180_13 hl180_13
          have HR180_14 := Aside0.mk hi180_14
          have HC180_14 := Aside0.mk hl180_14
          clear hi180_14 hl180_14
          have HR180_15 := Aside0.mk hi180_15
          have HC180_15 := Aside0.mk hl180_15
          clear hi180_15 hl180_15
          replace p180 := eq_true p180
          replace q180 := eq_true q180
          go_wp2_with (first | ((with_reducible refine gate_dst (N := 9) rfl ?_); refine box_event ?hg (N := 9) ?hd (cs := #[.int .i64 0, .slice none 0 0, .string (⟨#[]⟩ : ByteArray), .int .i64 0, .slice none 0 0, .int .i64 0, .int .i64 0, .int .i64 0, .slice none 0 0, .slice none 0 0, .int .i64 0, .int .i64 0, .int .i64 0, .slice none 0 0, .slice none 0 0, .slice none 0 0]) (t := 44) ?hr ?_; (case hd => rfl); (case hg => rfl); (case hr => first | (go_simp; done) | (go_simp; rfl)); intro gb181 hg w43 hbox hb; have BK181 := Aside0.mk (hbox); have GW181 := Aside0.mk ((by rw [hg]; exact below_sizeA : w.heap.size ≤ gb181)); have GE181 := GW181; have NB176_181 := Aside0.mk ((by rw [hg]; exact Nat.ne_of_lt (blk_ltKA BK176.out) : gb176 ≠ gb181)); have NB181_176 := Aside0.mk NB176_181.out.symm; have NB177_181 := Aside0.mk ((by rw [hg]; exact Nat.ne_of_lt (blk_ltKA BK177.out) : gb177 ≠ gb181)); have NB181_177 := Aside0.mk NB177_181.out.symm; replace HO_7 := Aside0.mk (r_belowA HO_7.out hb); replace BK176 := Aside0.mk (blk_keepA BK176.out hb); replace BK177 := Aside0.mk (blk_keepA BK177.out hb); replace HB := Aside0.mk (below_stepA hb); clear hb hbox hg; have hnb44 := NB181_176.out; have hnc44 := NB176_181.out; have hnb45 := NB181_177.out; have hnc45 := NB177_181.out; have hz46 := blk16 BK181.out) | ((with_reducible refine gate_callee (f := 12) rfl ?_); refine goesL_ (some 28) rfl rfl Try.func12 (by kernel_rfl) rfl #[.agg (A44 (rd_T44 l0_1 x22_2) A180_1 c180_1 A180_4 c180_4 A180_8 c180_8 A180_9 c180_9 A180_13 c180_13 A180_14 c180_14 A180_15 c180_15)] rfl mapA ?_; (with_reducible refine (bounds_Bounded.calls _ _ _ _ _ _ _ _ _ _ _ _ _ _ _ _ _ _ _ _ _ _ _ _ _ _ _ _ _ _ true _ (c_belowB HR180_1.out) HC180_1.out (c_belowB HR180_4.out) HC180_4.out (c_belowB HR180_8.out) HC180_8.out (c_belowB HR180_9.out) HC180_9.out (c_belowB HR180_13.out) HC180_13.out (c_belowB HR180_14.out) HC180_14.out (c_belowB HR180_15.out) HC180_15.out A23.out).mono ?_); rintro e w47 ⟨rfl, hb⟩; refine ⟨_, rfl, ?_⟩; replace HO_7 := Aside0.mk (r_belowT HO_7.out BK181.out hb); replace BK176 := Aside0.mk (blk_keepA BK176.out hb); replace BK177 := Aside0.mk (blk_keepA BK177.out hb); replace BK181 := Aside0.mk (blk_below (g := gb181) (o := .cells (A44 (rd_T44 l0_1 x22_2) A180_1 c180_1 A180_4 c180_4 A180_8 c180_8 A180_9 c180_9 A180_13 c180_13 A180_14 c180_14 A180_15 c180_15) 44 (0, 0)) (blk_move BK181.out) hb); replace HB := Aside0.mk (below_stepA hb); (try clear hb); have hz48 := blk16 BK181.out; have hnb49 := NB177_176.out; have hnc49 := NB176_177.out; have hz50 := blk6 BK177.out; obtain ⟨Ao51, co51, eo51⟩ := Kd.R_slice HO_7.out; subst eo51) | ((with_reducible refine gate_callee (f := 26) rfl ?_); refine goesL_ (some 34) rfl rfl Try.func26 (by kernel_rfl) rfl #[.agg (A44 (rd_T44 l0_1 x22_2) A180_1 c180_1 A180_4 c180_4 A180_8 c180_8 A180_9 c180_9 A180_13 c180_13 A180_14 c180_14 A180_15 c180_15), .slice Ao51 x7_2.length co51, .agg #[.int .i64 a1_0, .int .i64 a1_1, .int .i64 a1_2, .int .i64 a1_3, .int .i64 a1_4, .int .i64 a1_5]] rfl mapA ?_; (with_reducible refine (bounds_bound.calls k2 _ _ _ _ _ _ _ _ _ _ _ _ _ _ _ _ _ _ _ _ _ _ _ _ _ _ _ _ _ _ _ _ x7_2 a1_0 a1_1 a1_2 a1_3 a1_4 a1_5 t183 t184 t185 t186 _ (c_belowA HR180_1.out) HC180_1.out (c_belowA HR180_4.out) HC180_4.out (c_belowA HR180_8.out) HC180_8.out (c_belowA HR180_9.out) HC180_9.out (c_belowA HR180_13.out) HC180_13.out (c_belowA HR180_14.out) HC180_14.out (c_belowA HR180_15.out) HC180_15.out ?side15 ?side16 A25.out).mono ?_); (case side15 => repeat (first | exact (Kd.R_reads' HO_7.out).2.2 | (with_reducible refine Kd.C_alloc ?_ _) | (with_reducible refine Kd.C_drewN ?_ _) | (with_reducible refine Kd.C_drew ?_))); (case side16 => exact (Kd.R_reads' HO_7.out).2.1); rintro e w52 ⟨rfl, hb⟩; refine ⟨_, rfl, ?_⟩; replace HO_7 := Aside0.mk (r_belowA HO_7.out hb); replace BK176 := Aside0.mk (blk_keepA BK176.out hb); replace BK177 := Aside0.mk (blk_keepA BK177.out hb); replace BK181 := Aside0.mk (blk_keepA BK181.out hb); replace HB := Aside0.mk (below_stepA hb); (try clear hb)) | ((with_reducible refine gate_dst (N := 10) rfl ?_); refine box_event ?hg (N := 10) ?hd (cs := #[.int .i64 0, .int .i64 0, .int .i64 0, .int .i64 0]) (t := 37) ?hr ?_; (case hd => rfl); (case hg => rfl); (case hr => first | (go_simp; done) | (go_simp; rfl)); intro gb187 hg w53 hbox hb; have BK187 := Aside0.mk (hbox); have GW187 := Aside0.mk ((by rw [hg]; exact below_sizeA : w.heap.size ≤ gb187)); have GE187 := GW187; have NB176_187 := Aside0.mk ((by rw [hg]; exact Nat.ne_of_lt (blk_ltKA BK176.out) : gb176 ≠ gb187)); have NB187_176 := Aside0.mk NB176_187.out.symm; have NB177_187 := Aside0.mk ((by rw [hg]; exact Nat.ne_of_lt (blk_ltKA BK177.out) : gb177 ≠ gb187)); have NB187_177 := Aside0.mk NB177_187.out.symm; have NB181_187 := Aside0.mk ((by rw [hg]; exact Nat.ne_of_lt (blk_ltKA BK181.out) : gb181 ≠ gb187)); have NB187_181 := Aside0.mk NB181_187.out.symm; replace HO_7 := Aside0.mk (Kd.R_below (Kd.R_elderB (by (with_reducible repeat (first | apply Kd.R_alloc | apply Kd.R_drewN | apply Kd.R_drew)); exact HO_7.out) gb187 (Nat.le_of_eq hg.symm)) hb); replace BK176 := Aside0.mk (blk_keepA BK176.out hb); replace BK177 := Aside0.mk (blk_keepA BK177.out hb); replace BK181 := Aside0.mk (blk_keepA BK181.out hb); replace HB := Aside0.mk (below_stepA hb); clear hb hbox hg; have hnb54 := NB187_176.out; have hnc54 := NB176_187.out; have hnb55 := NB187_177.out; have hnc55 := NB177_187.out; have hnb56 := NB187_181.out; have hnc56 := NB181_187.out; have hz57 := blk4 BK187.out))
          go_ret3
          exact ⟨_, by first | rfl | (simp [errW_none, errW_some] <;> rfl) | (simp [*, errW_none, errW_some] <;> rfl), by first | exact Kd.R_nil _ _ _ _ _ | exact Kd.N_nil _ _ _ _ _ | exact Kd.V_nil _ _ _ _ _ | exact Kd.Q_nil _ _ _ _ _ | exact Kd.S_nil _ _ _ _ _, belowA⟩
         ·
          rw [if_neg c42] at H
          have c42b0 : decide (1099511627776 ≤ t186) = false := decide_eq_false c42
          clear c42
          by_cases c58 : x7_2.length < 4398046511104
          case neg => rw [if_neg c58] at H; exact absurd H (by simp)
          rw [if_pos c58] at H
          have LMc58 := Aside0.mk c58
          clear c58
          obtain ⟨y188, hy188⟩ : ∃ y_ : List (S37), y_ = (x7_2 ++ [(⟨t183, t184, t185, t186⟩ : S37)]) := ⟨_, rfl⟩
          replace H : (bounds_Analyze.l0 k2 y188 l0_1 (l0_1.length : Int) (wrap64 (x22_2 + 1)) a1_0 a1_1 a1_2 a1_3 a1_4 a1_5) = some (r1, r2, r3) := by first | (rw [hy188]; with_reducible exact H) | (have H2_ := (Option.bind_some _ _).symm.trans H; rw [hy188]; with_reducible exact H2_) | (have H2_ := (Option.bind_some _ _).symm.trans H; with_reducible exact H2_) | with_reducible exact H | (rw [hy188]; exact H) | exact H
          have Ny188 := Aside0.mk hy188
          clear hy188
          have H' := Aside0.mk H
          clear H
          have p180 : 0 ≤ (x22_2 : Int) := odA
          have q180 : x22_2 < (l0_1.length : Int) := odA
          obtain ⟨ad180, A180_1, c180_1, A180_4, c180_4, A180_8, c180_8, A180_9, c180_9, A180_13, c180_13, A180_14, c180_14, A180_15, c180_15, e180, hx180_0, hx180_1, hx180_2, hx180_3, hx180_4, hx180_5, hx180_6, hx180_7, hx180_8, hx180_9, hx180_10, hx180_11, hx180_12, hx180_13, hx180_14, hx180_15, hl180_1, hi180_1, hl180_4, hi180_4, hl180_8, hi180_8, hl180_9, hi180_9, hl180_13, hi180_13, hl180_14, hi180_14, hl180_15, hi180_15⟩ := at_T44 HR0_1.out x22_2 p180 q180
          cases e180
          replace hx180_0 := pw_cell_below HB.out hx180_0
          replace hx180_1 := pw_cell_below HB.out hx180_1
          replace hx180_2 := pw_cell_below HB.out hx180_2
          replace hx180_3 := pw_cell_below HB.out hx180_3
          replace hx180_4 := pw_cell_below HB.out hx180_4
          replace hx180_5 := pw_cell_below HB.out hx180_5
          replace hx180_6 := pw_cell_below HB.out hx180_6
          replace hx180_7 := pw_cell_below HB.out hx180_7
          replace hx180_8 := pw_cell_below HB.out hx180_8
          replace hx180_9 := pw_cell_below HB.out hx180_9
          replace hx180_10 := pw_cell_below HB.out hx180_10
          replace hx180_11 := pw_cell_below HB.out hx180_11
          replace hx180_12 := pw_cell_below HB.out hx180_12
          replace hx180_13 := pw_cell_below HB.out hx180_13
          replace hx180_14 := pw_cell_below HB.out hx180_14
          replace hx180_15 := pw_cell_below HB.out hx180_15
          have HR180_1 := Aside0.mk hi180_1
          have HC180_1 := Aside0.mk hl180_1
          clear hi180_1 hl180_1
          have HR180_4 := Aside0.mk hi180_4
          have HC180_4 := Aside0.mk hl180_4
          clear hi180_4 hl180_4
          have HR180_8 := Aside0.mk hi180_8
          have HC180_8 := Aside0.mk hl180_8
          clear hi180_8 hl180_8
          have HR180_9 := Aside0.mk hi180_9
          have HC180_9 := Aside0.mk hl180_9
          clear hi180_9 hl180_9
          have HR180_13 := Aside0.mk hi180_13
          have HC180_13 := Aside0.mk hl180_13
          clear hi180_13 hl180_13
          have HR180_14 := Aside0.mk hi180_14
          have HC180_14 := Aside0.mk hl180_14
          clear hi180_14 hl180_14
          have HR180_15 := Aside0.mk hi180_15
          have HC180_15 := Aside0.mk hl180_15
          clear hi180_15 hl180_15
          replace p180 := eq_true p180
          replace q180 := eq_true q180
          go_wp2_with (first | ((with_reducible refine gate_dst (N := 9) rfl ?_); refine box_event ?hg (N := 9) ?hd (cs := #[.int .i64 0, .slice none 0 0, .string (⟨#[]⟩ : ByteArray), .int .i64 0, .slice none 0 0, .int .i64 0, .int .i64 0, .int .i64 0, .slice none 0 0, .slice none 0 0, .int .i64 0, .int .i64 0, .int .i64 0, .slice none 0 0, .slice none 0 0, .slice none 0 0]) (t := 44) ?hr ?_; (case hd => rfl); (case hg => rfl); (case hr => first | (go_simp; done) | (go_simp; rfl)); intro gb181 hg w59 hbox hb; have BK181 := Aside0.mk (hbox); have GW181 := Aside0.mk ((by rw [hg]; exact below_sizeA : w.heap.size ≤ gb181)); have GE181 := GW181; have NB176_181 := Aside0.mk ((by rw [hg]; exact Nat.ne_of_lt (blk_ltKA BK176.out) : gb176 ≠ gb181)); have NB181_176 := Aside0.mk NB176_181.out.symm; have NB177_181 := Aside0.mk ((by rw [hg]; exact Nat.ne_of_lt (blk_ltKA BK177.out) : gb177 ≠ gb181)); have NB181_177 := Aside0.mk NB177_181.out.symm; replace HO_7 := Aside0.mk (r_belowA HO_7.out hb); replace BK176 := Aside0.mk (blk_keepA BK176.out hb); replace BK177 := Aside0.mk (blk_keepA BK177.out hb); replace HB := Aside0.mk (below_stepA hb); clear hb hbox hg; have hnb60 := NB181_176.out; have hnc60 := NB176_181.out; have hnb61 := NB181_177.out; have hnc61 := NB177_181.out; have hz62 := blk16 BK181.out) | ((with_reducible refine gate_callee (f := 12) rfl ?_); refine goesL_ (some 28) rfl rfl Try.func12 (by kernel_rfl) rfl #[.agg (A44 (rd_T44 l0_1 x22_2) A180_1 c180_1 A180_4 c180_4 A180_8 c180_8 A180_9 c180_9 A180_13 c180_13 A180_14 c180_14 A180_15 c180_15)] rfl mapA ?_; (with_reducible refine (bounds_Bounded.calls _ _ _ _ _ _ _ _ _ _ _ _ _ _ _ _ _ _ _ _ _ _ _ _ _ _ _ _ _ _ true _ (c_belowB HR180_1.out) HC180_1.out (c_belowB HR180_4.out) HC180_4.out (c_belowB HR180_8.out) HC180_8.out (c_belowB HR180_9.out) HC180_9.out (c_belowB HR180_13.out) HC180_13.out (c_belowB HR180_14.out) HC180_14.out (c_belowB HR180_15.out) HC180_15.out A23.out).mono ?_); rintro e w63 ⟨rfl, hb⟩; refine ⟨_, rfl, ?_⟩; replace HO_7 := Aside0.mk (r_belowT HO_7.out BK181.out hb); replace BK176 := Aside0.mk (blk_keepA BK176.out hb); replace BK177 := Aside0.mk (blk_keepA BK177.out hb); replace BK181 := Aside0.mk (blk_below (g := gb181) (o := .cells (A44 (rd_T44 l0_1 x22_2) A180_1 c180_1 A180_4 c180_4 A180_8 c180_8 A180_9 c180_9 A180_13 c180_13 A180_14 c180_14 A180_15 c180_15) 44 (0, 0)) (blk_move BK181.out) hb); replace HB := Aside0.mk (below_stepA hb); (try clear hb); have hz64 := blk16 BK181.out; have hnb65 := NB177_176.out; have hnc65 := NB176_177.out; have hz66 := blk6 BK177.out; obtain ⟨Ao67, co67, eo67⟩ := Kd.R_slice HO_7.out; subst eo67) | ((with_reducible refine gate_callee (f := 26) rfl ?_); refine goesL_ (some 34) rfl rfl Try.func26 (by kernel_rfl) rfl #[.agg (A44 (rd_T44 l0_1 x22_2) A180_1 c180_1 A180_4 c180_4 A180_8 c180_8 A180_9 c180_9 A180_13 c180_13 A180_14 c180_14 A180_15 c180_15), .slice Ao67 x7_2.length co67, .agg #[.int .i64 a1_0, .int .i64 a1_1, .int .i64 a1_2, .int .i64 a1_3, .int .i64 a1_4, .int .i64 a1_5]] rfl mapA ?_; (with_reducible refine (bounds_bound.calls k2 _ _ _ _ _ _ _ _ _ _ _ _ _ _ _ _ _ _ _ _ _ _ _ _ _ _ _ _ _ _ _ _ x7_2 a1_0 a1_1 a1_2 a1_3 a1_4 a1_5 t183 t184 t185 t186 _ (c_belowA HR180_1.out) HC180_1.out (c_belowA HR180_4.out) HC180_4.out (c_belowA HR180_8.out) HC180_8.out (c_belowA HR180_9.out) HC180_9.out (c_belowA HR180_13.out) HC180_13.out (c_belowA HR180_14.out) HC180_14.out (c_belowA HR180_15.out) HC180_15.out ?side15 ?side16 A25.out).mono ?_); (case side15 => repeat (first | exact (Kd.R_reads' HO_7.out).2.2 | (with_reducible refine Kd.C_alloc ?_ _) | (with_reducible refine Kd.C_drewN ?_ _) | (with_reducible refine Kd.C_drew ?_))); (case side16 => exact (Kd.R_reads' HO_7.out).2.1); rintro e w68 ⟨rfl, hb⟩; refine ⟨_, rfl, ?_⟩; replace HO_7 := Aside0.mk (r_belowA HO_7.out hb); replace BK176 := Aside0.mk (blk_keepA BK176.out hb); replace BK177 := Aside0.mk (blk_keepA BK177.out hb); replace BK181 := Aside0.mk (blk_keepA BK181.out hb); replace HB := Aside0.mk (below_stepA hb); (try clear hb)) | ((with_reducible refine gate_dst (N := 10) rfl ?_); refine box_event ?hg (N := 10) ?hd (cs := #[.int .i64 0, .int .i64 0, .int .i64 0, .int .i64 0]) (t := 37) ?hr ?_; (case hd => rfl); (case hg => rfl); (case hr => first | (go_simp; done) | (go_simp; rfl)); intro gb187 hg w69 hbox hb; have BK187 := Aside0.mk (hbox); have GW187 := Aside0.mk ((by rw [hg]; exact below_sizeA : w.heap.size ≤ gb187)); have GE187 := GW187; have NB176_187 := Aside0.mk ((by rw [hg]; exact Nat.ne_of_lt (blk_ltKA BK176.out) : gb176 ≠ gb187)); have NB187_176 := Aside0.mk NB176_187.out.symm; have NB177_187 := Aside0.mk ((by rw [hg]; exact Nat.ne_of_lt (blk_ltKA BK177.out) : gb177 ≠ gb187)); have NB187_177 := Aside0.mk NB177_187.out.symm; have NB181_187 := Aside0.mk ((by rw [hg]; exact Nat.ne_of_lt (blk_ltKA BK181.out) : gb181 ≠ gb187)); have NB187_181 := Aside0.mk NB181_187.out.symm; replace HO_7 := Aside0.mk (Kd.R_below (Kd.R_elderB (by (with_reducible repeat (first | apply Kd.R_alloc | apply Kd.R_drewN | apply Kd.R_drew)); exact HO_7.out) gb187 (Nat.le_of_eq hg.symm)) hb); replace BK176 := Aside0.mk (blk_keepA BK176.out hb); replace BK177 := Aside0.mk (blk_keepA BK177.out hb); replace BK181 := Aside0.mk (blk_keepA BK181.out hb); replace HB := Aside0.mk (below_stepA hb); clear hb hbox hg; have hnb70 := NB187_176.out; have hnc70 := NB176_187.out; have hnb71 := NB187_177.out; have hnc71 := NB177_187.out; have hnb72 := NB187_181.out; have hnc72 := NB181_187.out; have hz73 := blk4 BK187.out) | ((with_reducible refine gate_builtin (b := .append) (xs := #[.tmp 44, .tmp 46]) rfl ?_); at_builtin; refine Kd.R_append k37 (w0 := w) w.heap.size rfl (.tmp 44) (.tmp 46) 30 37 (.agg #[(.int .i64 0), (.int .i64 0), (.int .i64 0), (.int .i64 0)]) 32 rfl Try.underlying30 info37 rfl (by decide) (by omega) (.slice Ao67 x7_2.length co67) x7_2 (⟨t183, t184, t185, t186⟩ : S37) [.int .i64 t183, .int .i64 t184, .int .i64 t185, .int .i64 t186] (fun k_ => k_ ≠ gb187) (fun _ => False) rfl (by first | (go_simp; done) | (go_simp; rfl)) ?aP (fun _ hk => hk.elim) ?aF ?aO ?aB ?aS ?aL ?_; (case aP => exact k37_mkM _ _ _ (⟨t183, t184, t185, t186⟩ : S37)); (case aB => exact belowA); (case aF => exact (fun k_ hk => Kd.freshB (g := gb187) (o := .cells #[.int .i64 t183, .int .i64 t184, .int .i64 t185, .int .i64 t186] 37 (0, 0)) (blk_move BK187.out) k_ hk)); (case aO => exact (by (with_reducible repeat (first | apply Kd.R_alloc | apply Kd.R_drewN | apply Kd.R_drew)); exact Kd.R_mono (Kd.R_far (p := ⟨gb187, 3, none⟩) (Kd.R_far (p := ⟨gb187, 2, none⟩) (Kd.R_far (p := ⟨gb187, 1, none⟩) (Kd.R_far (p := ⟨gb187, 0, none⟩) (Kd.R_mono HO_7.out (fun k_ hk => (⟨hk, hk.2⟩ : _ ∧ k_ ≠ gb187))) (fun _ hk => hk.2) (.int .i64 t183)) (fun _ hk => hk.2) (.int .i64 t184)) (fun _ hk => hk.2) (.int .i64 t185)) (fun _ hk => hk.2) (.int .i64 t186)) (fun _ hk => hk.1.2))); (case aS => exact below_sizeA); (case aL => have := LMc58.out; omega); intro v189 w74 ho hb hg hat; rw [← Ny188.out] at ho; have n0_ := Aside0.mk (blk_grown (g := gb176) (o := .cells #[.slice A0_0 l0_0.length c0_0, .slice (some ad180) l0_1.length c0_1] 25 (0, 0)) (blk_move BK176.out) hg (Kd.R_ne HO_7.out BK176.out (by decide))); have n1_ := Aside0.mk (blk_grown (g := gb177) (o := .cells #[.int .i64 a1_0, .int .i64 a1_1, .int .i64 a1_2, .int .i64 a1_3, .int .i64 a1_4, .int .i64 a1_5] 27 (0, 0)) (blk_move BK177.out) hg (Kd.R_ne HO_7.out BK177.out (by decide))); have n2_ := Aside0.mk (blk_grown (g := gb181) (o := .cells (A44 (rd_T44 l0_1 x22_2) A180_1 c180_1 A180_4 c180_4 A180_8 c180_8 A180_9 c180_9 A180_13 c180_13 A180_14 c180_14 A180_15 c180_15) 44 (0, 0)) (blk_move BK181.out) hg (Kd.R_ne HO_7.out BK181.out (by decide))); have n3_ := Aside0.mk (blk_grown (g := gb187) (o := .cells #[.int .i64 t183, .int .i64 t184, .int .i64 t185, .int .i64 t186] 37 (0, 0)) (blk_move BK187.out) hg (Kd.R_away HO_7.out (fun _ hk => hk.2))); have n4_ := Aside0.mk (hb); have n5_ := Aside0.mk (ho); clear BK176; clear BK177; clear BK181; clear BK187; clear HB; clear HO_7; have BK176 := n0_; have BK177 := n1_; have BK181 := n2_; have BK187 := n3_; have HB := n4_; have HO190 := n5_; clear n0_ n1_ n2_ n3_ n4_ n5_; clear ho hb hg hat))
          go_roundg k2
          case measure => have := HJ2.out; have := HK2.out; omega
          case rel => exact ⟨(y188), (wrap64 (x22_2 + 1)), (by first | rfl | (simp; done) | (simp [*]; done)), H', ⟨by have := HJ2.out; have := HK2.out; omega⟩, ⟨by (with_reducible repeat (first | apply Kd.R_alloc | apply Kd.R_drewN | apply Kd.R_drew)); exact Kd.R_mono HO190.out (fun _ hk => trivial)⟩, ⟨blk_move BK176.out⟩, ⟨blk_move BK177.out⟩, ⟨by repeat (first | (with_reducible first | exact HB.out | apply below_alloc | apply pw_below_drewN | apply below_drew1 | refine below_set ?_ GE176.out | refine below_set ?_ GE177.out | refine below_set ?_ GE181.out | refine below_set ?_ GE187.out) | exact HB.out)⟩⟩
       ·
        replace c24 := Bool.eq_false_iff.mpr c24
        subst c24
        rw [if_neg (show ¬ (false = true) by decide)] at H
        simp only [Option.some.injEq, Prod.mk.injEq] at H
        obtain ⟨rfl, rfl, rfl⟩ := H
        have p180 : 0 ≤ (x22_2 : Int) := odA
        have q180 : x22_2 < (l0_1.length : Int) := odA
        obtain ⟨ad180, A180_1, c180_1, A180_4, c180_4, A180_8, c180_8, A180_9, c180_9, A180_13, c180_13, A180_14, c180_14, A180_15, c180_15, e180, hx180_0, hx180_1, hx180_2, hx180_3, hx180_4, hx180_5, hx180_6, hx180_7, hx180_8, hx180_9, hx180_10, hx180_11, hx180_12, hx180_13, hx180_14, hx180_15, hl180_1, hi180_1, hl180_4, hi180_4, hl180_8, hi180_8, hl180_9, hi180_9, hl180_13, hi180_13, hl180_14, hi180_14, hl180_15, hi180_15⟩ := at_T44 HR0_1.out x22_2 p180 q180
        cases e180
        replace hx180_0 := pw_cell_below HB.out hx180_0
        replace hx180_1 := pw_cell_below HB.out hx180_1
        replace hx180_2 := pw_cell_below HB.out hx180_2
        replace hx180_3 := pw_cell_below HB.out hx180_3
        replace hx180_4 := pw_cell_below HB.out hx180_4
        replace hx180_5 := pw_cell_below HB.out hx180_5
        replace hx180_6 := pw_cell_below HB.out hx180_6
        replace hx180_7 := pw_cell_below HB.out hx180_7
        replace hx180_8 := pw_cell_below HB.out hx180_8
        replace hx180_9 := pw_cell_below HB.out hx180_9
        replace hx180_10 := pw_cell_below HB.out hx180_10
        replace hx180_11 := pw_cell_below HB.out hx180_11
        replace hx180_12 := pw_cell_below HB.out hx180_12
        replace hx180_13 := pw_cell_below HB.out hx180_13
        replace hx180_14 := pw_cell_below HB.out hx180_14
        replace hx180_15 := pw_cell_below HB.out hx180_15
        have HR180_1 := Aside0.mk hi180_1
        have HC180_1 := Aside0.mk hl180_1
        clear hi180_1 hl180_1
        have HR180_4 := Aside0.mk hi180_4
        have HC180_4 := Aside0.mk hl180_4
        clear hi180_4 hl180_4
        have HR180_8 := Aside0.mk hi180_8
        have HC180_8 := Aside0.mk hl180_8
        clear hi180_8 hl180_8
        have HR180_9 := Aside0.mk hi180_9
        have HC180_9 := Aside0.mk hl180_9
        clear hi180_9 hl180_9
        have HR180_13 := Aside0.mk hi180_13
        have HC180_13 := Aside0.mk hl180_13
        clear hi180_13 hl180_13
        have HR180_14 := Aside0.mk hi180_14
        have HC180_14 := Aside0.mk hl180_14
        clear hi180_14 hl180_14
        have HR180_15 := Aside0.mk hi180_15
        have HC180_15 := Aside0.mk hl180_15
        clear hi180_15 hl180_15
        replace p180 := eq_true p180
        replace q180 := eq_true q180
        go_wp2_with (first | ((with_reducible refine gate_dst (N := 9) rfl ?_); refine box_event ?hg (N := 9) ?hd (cs := #[.int .i64 0, .slice none 0 0, .string (⟨#[]⟩ : ByteArray), .int .i64 0, .slice none 0 0, .int .i64 0, .int .i64 0, .int .i64 0, .slice none 0 0, .slice none 0 0, .int .i64 0, .int .i64 0, .int .i64 0, .slice none 0 0, .slice none 0 0, .slice none 0 0]) (t := 44) ?hr ?_; (case hd => rfl); (case hg => rfl); (case hr => first | (go_simp; done) | (go_simp; rfl)); intro gb181 hg w75 hbox hb; have BK181 := Aside0.mk (hbox); have GW181 := Aside0.mk ((by rw [hg]; exact below_sizeA : w.heap.size ≤ gb181)); have GE181 := GW181; have NB176_181 := Aside0.mk ((by rw [hg]; exact Nat.ne_of_lt (blk_ltKA BK176.out) : gb176 ≠ gb181)); have NB181_176 := Aside0.mk NB176_181.out.symm; have NB177_181 := Aside0.mk ((by rw [hg]; exact Nat.ne_of_lt (blk_ltKA BK177.out) : gb177 ≠ gb181)); have NB181_177 := Aside0.mk NB177_181.out.symm; replace HO_7 := Aside0.mk (r_belowA HO_7.out hb); replace BK176 := Aside0.mk (blk_keepA BK176.out hb); replace BK177 := Aside0.mk (blk_keepA BK177.out hb); replace HB := Aside0.mk (below_stepA hb); clear hb hbox hg; have hnb76 := NB181_176.out; have hnc76 := NB176_181.out; have hnb77 := NB181_177.out; have hnc77 := NB177_181.out; have hz78 := blk16 BK181.out) | ((with_reducible refine gate_callee (f := 12) rfl ?_); refine goesL_ (some 28) rfl rfl Try.func12 (by kernel_rfl) rfl #[.agg (A44 (rd_T44 l0_1 x22_2) A180_1 c180_1 A180_4 c180_4 A180_8 c180_8 A180_9 c180_9 A180_13 c180_13 A180_14 c180_14 A180_15 c180_15)] rfl mapA ?_; (with_reducible refine (bounds_Bounded.calls _ _ _ _ _ _ _ _ _ _ _ _ _ _ _ _ _ _ _ _ _ _ _ _ _ _ _ _ _ _ false _ (c_belowB HR180_1.out) HC180_1.out (c_belowB HR180_4.out) HC180_4.out (c_belowB HR180_8.out) HC180_8.out (c_belowB HR180_9.out) HC180_9.out (c_belowB HR180_13.out) HC180_13.out (c_belowB HR180_14.out) HC180_14.out (c_belowB HR180_15.out) HC180_15.out A23.out).mono ?_); rintro e w79 ⟨rfl, hb⟩; refine ⟨_, rfl, ?_⟩; replace HO_7 := Aside0.mk (r_belowT HO_7.out BK181.out hb); replace BK176 := Aside0.mk (blk_keepA BK176.out hb); replace BK177 := Aside0.mk (blk_keepA BK177.out hb); replace BK181 := Aside0.mk (blk_below (g := gb181) (o := .cells (A44 (rd_T44 l0_1 x22_2) A180_1 c180_1 A180_4 c180_4 A180_8 c180_8 A180_9 c180_9 A180_13 c180_13 A180_14 c180_14 A180_15 c180_15) 44 (0, 0)) (blk_move BK181.out) hb); replace HB := Aside0.mk (below_stepA hb); (try clear hb)))
        go_ret3
        exact ⟨_, by first | rfl | (simp [errW_none, errW_some] <;> rfl) | (simp [*, errW_none, errW_some] <;> rfl), by first | exact Kd.R_nil _ _ _ _ _ | exact Kd.N_nil _ _ _ _ _ | exact Kd.V_nil _ _ _ _ _ | exact Kd.Q_nil _ _ _ _ _ | exact Kd.S_nil _ _ _ _ _, belowA⟩
      ·
       rw [if_neg c20] at H
       have c20b0 : decide (x22_2 < (l0_1.length : Int)) = false := decide_eq_false c20
       clear c20
       simp only [Option.some.injEq, Prod.mk.injEq] at H
       obtain ⟨rfl, rfl, rfl⟩ := H
       go_wp2
       go_ret3
       exact ⟨_, by first | rfl | (simp [errW_none, errW_some] <;> rfl) | (simp [*, errW_none, errW_some] <;> rfl), by (with_reducible repeat (first | apply Kd.R_alloc | apply Kd.R_drewN | apply Kd.R_drew)); exact HO_7.out, belowA⟩

end Go.Proofs.Yteoljddobfnfiaa.PB
end
section
namespace Go.Proofs.Yteoljddobfnfiaa.Pure
open Go.RowKit Go.Proofs.YteoljddobfnfiaaW.PrintWords Go.Proofs.YteoljddobfnfiaaW.PrintLast Go.Proofs.YteoljddobfnfiaaW.PrintMore Go.Proofs.Yteoljddobfnfiaa.PB
set_option linter.unusedVariables false
set_option linter.unusedSimpArgs false

def ana (c0 c4 c5 : Int) : Int → List S37 → List S44 → List S37 × Int × Int
  | _, bs, [] => (bs, -1, 0)
  | i, bs, n :: r => if bdd n = true then
      if 1099511627776 ≤ (boundOf bs c0 c4 c5 n).f2 ∨ 1099511627776 ≤ (boundOf bs c0 c4 c5 n).f3 then ([], i, 14) else ana c0 c4 c5 (i + 1) (bs ++ [boundOf bs c0 c4 c5 n]) r
    else ([], i, 14)
def analyze (l : List S44) (c0 c1 c2 c3 c4 c5 : Int) : List S37 × Int × Int :=
  if rightC c0 c1 c2 c3 c4 c5 ∧ well l = true then ana c0 c4 c5 0 [] l else ([], -1, 2)
theorem well_len {l : List S44} (h : well l = true) : okFrom 0 l = true ∧ 1 ≤ (l.length : Int) ∧ (l.length : Int) ≤ 40 := by
  unfold well at h
  simp only [Bool.and_eq_true, decide_eq_true_eq] at h
  exact h
theorem Ana_l0 {c0 c1 c2 c3 c4 c5 : Int} (l : List S44) (h0 : 1 ≤ c0 ∧ c0 ≤ 8) (h4 : 1 ≤ c4 ∧ c4 ≤ 20) (h5 : 0 ≤ c5 ∧ c5 ≤ 30000) (hlen : l.length ≤ 40) : ∀ d i : Nat, i + d = l.length → ∀ bs, pre (i : Int) bs → okFrom (i : Int) (l.drop i) = true →
    Ev (fun k => bounds_Analyze.l0 k bs l (l.length : Int) (i : Int) c0 c1 c2 c3 c4 c5) (ana c0 c4 c5 (i : Int) bs (l.drop i))
  | 0, i, hi, bs, hp, hok => by
    refine Ev.step (f := fun _ => some (bs, -1, 0)) (fun k => ?_) (by rw [List.drop_of_length_le (by omega)]; exact Ev.now _)
    simp only [bounds_Analyze.l0]
    rw [if_neg (by omega)]
  | d + 1, i, hi, bs, hp, hok => by
    have hil : i < l.length := by omega
    have e : l.drop i = l[i] :: l.drop (i + 1) := List.drop_eq_getElem_cons hil
    rw [e, okFrom] at hok
    obtain ⟨hok1, hok2⟩ := Bool.and_eq_true_iff.1 hok
    rw [e, ana]
    by_cases hb : bdd l[i] = true
    · rw [if_pos hb]
      have hv := bound_ev l[i] hok1 hp (by omega) hb h0 h4 h5 (c1 := c1) (c2 := c2) (c3 := c3)
      have hlb : bs.length < 4398046511104 := by have := hp.1; omega
      refine Ev.step (f := fun k => (bounds_bound.f k l[i].f0 l[i].f1 l[i].f2 l[i].f3 l[i].f4 l[i].f5 l[i].f6 l[i].f7 l[i].f8 l[i].f9 l[i].f10 l[i].f11 l[i].f12 l[i].f13 l[i].f14 l[i].f15 bs c0 c1 c2 c3 c4 c5).bind fun bt183 => (if bt183.2.2.1 ≥ 1099511627776 then (some (([] : List (S37)), (i : Int), 14)) else (if bt183.2.2.2 ≥ 1099511627776 then (some (([] : List (S37)), (i : Int), 14)) else (if bs.length < 4398046511104 then (bounds_Analyze.l0 k (bs ++ [(⟨bt183.1, bt183.2.1, bt183.2.2.1, bt183.2.2.2⟩ : S37)]) l (l.length : Int) (wrap64 ((i : Int) + 1)) c0 c1 c2 c3 c4 c5) else (none))))) (fun k => ?_) (Ev.bind hv ?_)
      · simp only [bounds_Analyze.l0]
        rw [if_pos (by omega), if_pos (by omega), if_pos (by omega), rd44_at hil, Bounded_eq, Option.bind_some, if_pos hb]
      · dsimp only
        by_cases m2 : 1099511627776 ≤ (boundOf bs c0 c4 c5 l[i]).f2
        · rw [if_pos (Or.inl m2)]
          refine Ev.congr (fun k => ?_) (Ev.now _)
          rw [if_pos m2]
        by_cases m3 : 1099511627776 ≤ (boundOf bs c0 c4 c5 l[i]).f3
        · rw [if_pos (Or.inr m3)]
          refine Ev.congr (fun k => ?_) (Ev.now _)
          rw [if_neg m2, if_pos m3]
        rw [if_neg (by intro h; cases h <;> contradiction)]
        have hp2 := pre_snoc hp (boundOf_ok (by omega) hp hok1 hb h0 h4 h5.1)
        rw [cast_succ] at hp2 hok2 ⊢
        have ih := Ana_l0 l h0 h4 h5 hlen d (i + 1) (by omega) _ hp2 hok2 (c1 := c1) (c2 := c2) (c3 := c3)
        refine Ev.congr (fun k => ?_) ih
        rw [if_neg m2, if_neg m3, if_pos hlb, wrap_id (n := ((i + 1 : Nat) : Int)) (by omega) (by omega)]
    · rw [if_neg hb]
      refine Ev.step (f := fun _ => some ([], (i : Int), 14)) (fun k => ?_) (Ev.now _)
      simp only [bounds_Analyze.l0]
      rw [if_pos (by omega), if_pos (by omega), if_pos (by omega), rd44_at hil, Bounded_eq, Option.bind_some, if_neg hb]
theorem Ana_ev (l : List S44) (F : List S95) (hl : l.length ≤ 9223372036854775807) (hin : ∀ n ∈ l, n.f1.length ≤ 9223372036854775807) (c0 c1 c2 c3 c4 c5 : Int) :
    Ev (fun k => bounds_Analyze.f k F l c0 c1 c2 c3 c4 c5) (analyze l c0 c1 c2 c3 c4 c5) := by
  unfold analyze
  by_cases hc : rightC c0 c1 c2 c3 c4 c5
  · refine Ev.congr (f := fun k => (bounds_Well.f k F l).bind fun t179 => (bounds_Analyze.j0 k (!t179) F l c0 c1 c2 c3 c4 c5)) (fun k => ?_) (Ev.bind (Well_ev l F hl hin) ?_)
    · unfold bounds_Analyze.f
      rw [RightConfig_eq, Option.bind_some, if_pos (decide_eq_true hc)]
    · cases hw : well l with
      | true =>
        rw [if_pos ⟨hc, rfl⟩]
        obtain ⟨w1, w2, w3⟩ := well_len hw
        unfold rightC at hc
        have := Ana_l0 l (by omega) (by omega) (by omega) (by omega) l.length 0 (by omega) [] ⟨rfl, fun b hb => by cases hb⟩ (by rw [List.drop_zero]; exact w1) (c0 := c0) (c1 := c1) (c2 := c2) (c3 := c3) (c4 := c4) (c5 := c5)
        rw [List.drop_zero] at this
        refine Ev.step (fun k => ?_) this
        simp only [bounds_Analyze.j0]
        rfl
      | false =>
        rw [if_neg (by simp)]
        refine Ev.step (fun k => ?_) (Ev.now _)
        simp only [bounds_Analyze.j0]
        rfl
  · rw [if_neg (fun h => hc h.1)]
    refine Ev.step (f := fun _ => some ([], -1, 2)) (fun k => ?_) (Ev.now _)
    unfold bounds_Analyze.f
    rw [RightConfig_eq, Option.bind_some, if_neg (by simp [hc])]
    simp only [bounds_Analyze.j0]
    rfl
end Go.Proofs.Yteoljddobfnfiaa.Pure
end
section
namespace Go.Proofs.Yteoljddobfnfiaa.PB
open Go.RowKit Go.Proofs.YteoljddobfnfiaaW.PrintWords Go.Proofs.YteoljddobfnfiaaW.PrintLast Go.Proofs.YteoljddobfnfiaaW.PrintMore
attribute [local go_sem] max2_int min2_int max_two min_two max_three min_three max_four min_four
attribute [local go_sem ↓ high] Go.Proofs.Yteoljddobfnfiaa.My.ld44_eq Go.Proofs.Yteoljddobfnfiaa.My.st44_eq Go.Proofs.Yteoljddobfnfiaa.My.ld27_eq Go.Proofs.Yteoljddobfnfiaa.My.st27_eq Go.Proofs.Yteoljddobfnfiaa.My.ld37_eq Go.Proofs.Yteoljddobfnfiaa.My.st37_eq Go.Proofs.Yteoljddobfnfiaa.My.ld65_eq Go.Proofs.Yteoljddobfnfiaa.My.st65_eq
attribute [local go_sem high] Go.Proofs.Yteoljddobfnfiaa.My.ld44_run Go.Proofs.Yteoljddobfnfiaa.My.st44_run Go.Proofs.Yteoljddobfnfiaa.My.ld27_run Go.Proofs.Yteoljddobfnfiaa.My.st27_run Go.Proofs.Yteoljddobfnfiaa.My.ld37_run Go.Proofs.Yteoljddobfnfiaa.My.st37_run Go.Proofs.Yteoljddobfnfiaa.My.ld65_run Go.Proofs.Yteoljddobfnfiaa.My.st65_run
open Go.Proofs.Yteoljddobfnfiaa.My
attribute [local go_sem] cell_map run_store_fnV one_int one_bool one_string one_slice one_fnV
set_option linter.unusedVariables false
set_option linter.unusedSimpArgs false

theorem eqA37 (d : Nat) (w : World) (x0 y0 : Int) (x1 y1 : Int) (x2 y2 : Int) (x3 y3 : Int) :
    (Op.equalIn (d + 2) 37 (.agg #[.int .i64 x0, .int .i64 x1, .int .i64 x2, .int .i64 x3]) (.agg #[.int .i64 y0, .int .i64 y1, .int .i64 y2, .int .i64 y3])).run Try.prog w = .ok (x0 == y0 && (x1 == y1 && (x2 == y2 && (x3 == y3)))) w := by
  refine eqA_of Try.underlying37 (by kernel_rfl) ?_
  refine eqf_cons (by rfl) (by go_simp; rfl) (by go_simp; rfl) (by go_simp) ?_
  refine eqf_cons (by rfl) (by go_simp; rfl) (by go_simp; rfl) (by go_simp) ?_
  refine eqf_cons (by rfl) (by go_simp; rfl) (by go_simp; rfl) (by go_simp) ?_
  exact eqf_last (by rfl) (by go_simp; rfl) (by go_simp; rfl) (by go_simp)
end Go.Proofs.Yteoljddobfnfiaa.PB
end
section
namespace Go.Proofs.Yteoljddobfnfiaa.PB
open Go.RowKit Go.Proofs.YteoljddobfnfiaaW.PrintWords Go.Proofs.YteoljddobfnfiaaW.PrintLast Go.Proofs.YteoljddobfnfiaaW.PrintMore
attribute [local go_sem] max2_int min2_int max_two min_two max_three min_three max_four min_four
attribute [local go_sem ↓ high] Go.Proofs.Yteoljddobfnfiaa.My.ld44_eq Go.Proofs.Yteoljddobfnfiaa.My.st44_eq Go.Proofs.Yteoljddobfnfiaa.My.ld27_eq Go.Proofs.Yteoljddobfnfiaa.My.st27_eq Go.Proofs.Yteoljddobfnfiaa.My.ld37_eq Go.Proofs.Yteoljddobfnfiaa.My.st37_eq Go.Proofs.Yteoljddobfnfiaa.My.ld65_eq Go.Proofs.Yteoljddobfnfiaa.My.st65_eq
attribute [local go_sem high] Go.Proofs.Yteoljddobfnfiaa.My.ld44_run Go.Proofs.Yteoljddobfnfiaa.My.st44_run Go.Proofs.Yteoljddobfnfiaa.My.ld27_run Go.Proofs.Yteoljddobfnfiaa.My.st27_run Go.Proofs.Yteoljddobfnfiaa.My.ld37_run Go.Proofs.Yteoljddobfnfiaa.My.st37_run Go.Proofs.Yteoljddobfnfiaa.My.ld65_run Go.Proofs.Yteoljddobfnfiaa.My.st65_run
open Go.Proofs.Yteoljddobfnfiaa.My
attribute [local go_sem] cell_map run_store_fnV one_int one_bool one_string one_slice one_fnV
set_option linter.unusedVariables false
set_option linter.unusedSimpArgs false

attribute [local go_sem high] eqA37
def errataref20_Same.l0 : Nat → List (S37) → List (S37) → Int → Option (Bool)
  | 0, _, _, _ => none
  | k + 1, x0, x1, x5 => if x5 < (x0.length : Int) then (if 0 ≤ x5 then (if x5 < (x1.length : Int) then (if (!(((rd_T37 x0 x5).f0) == ((rd_T37 x1 x5).f0)) || (!(((rd_T37 x0 x5).f1) == ((rd_T37 x1 x5).f1)) || (!(((rd_T37 x0 x5).f2) == ((rd_T37 x1 x5).f2)) || (!(((rd_T37 x0 x5).f3) == ((rd_T37 x1 x5).f3)))))) = true then (some false) else (errataref20_Same.l0 k x0 x1 (wrap64 (x5 + 1)))) else (none)) else (none)) else (some true)
def errataref20_Same.f (k : Nat) (l0 : List (S37)) (l1 : List (S37)) : Option (Bool) := if (l0.length : Int) = (l1.length : Int) then (errataref20_Same.l0 k l0 l1 0) else (some false)
theorem errataref20_Same.mono_l : ∀ k, (∀ y0 y1 y2, LeO (errataref20_Same.l0 k y0 y1 y2) (errataref20_Same.l0 (k + 1) y0 y1 y2))
  | 0 => fun _ _ _ r h => by simp [errataref20_Same.l0] at h
  | k + 1 => by
    have ih0 := errataref20_Same.mono_l k
    · intro y0 y1 y2
      unfold errataref20_Same.l0
      repeat' first
      | (with_reducible first | exact ih0 _ _ _ | exact LeO.refl _ | exact LeO.none _ | refine LeO.ite ?_ ?_ | refine LeO.bind ?_ (fun _ => ?_))
      | exact ih0 _ _ _ | exact LeO.none _ | refine LeO.ite ?_ ?_ | refine LeO.bind ?_ (fun _ => ?_)
theorem errataref20_Same.mono : ∀ a0 a1 k, LeO (errataref20_Same.f k a0 a1) (errataref20_Same.f (k + 1) a0 a1) := by
  intro a0 a1 k
  have ih0 := errataref20_Same.mono_l k
  unfold errataref20_Same.f
  repeat' first
      | (with_reducible first | exact ih0 _ _ _ | exact LeO.refl _ | exact LeO.none _ | refine LeO.ite ?_ ?_ | refine LeO.bind ?_ (fun _ => ?_))
      | exact ih0 _ _ _ | exact LeO.none _ | refine LeO.ite ?_ ?_ | refine LeO.bind ?_ (fun _ => ?_)
set_option maxHeartbeats 8000000 in
set_option maxRecDepth 100000 in
theorem errataref20_Same.calls (k : Nat) (A0 : Option Addr) (c0 : Nat) (l0 : List (S37)) (A1 : Option Addr) (c1 : Nat) (l1 : List (S37)) (r : Bool) (w : World) (hr0 : Kd.C k37 w A0 l0.length l0) (hc0 : l0.length ≤ c0) (hr1 : Kd.C k37 w A1 l1.length l1) (hc1 : l1.length ≤ c1) (h : errataref20_Same.f k l0 l1 = some r) :
    Calls Try.prog 11 #[.slice A0 l0.length c0, .slice A1 l1.length c1] w fun e w' => e = .returned (.bool r) ∧ Drawn0 w w' := by
 have hu37 := Try.underlying37
 have HR0 := Aside0.mk hr0
 have HC0 := Aside0.mk hc0
 clear hr0 hc0
 have HR1 := Aside0.mk hr1
 have HC1 := Aside0.mk hc1
 clear hr1 hc1
 have H : (if (l0.length : Int) = (l1.length : Int) then (errataref20_Same.l0 k l0 l1 0) else (some false)) = some r := h
 clear h
 by_cases c3 : (l0.length : Int) = (l1.length : Int)
 ·
  rw [if_pos c3] at H
  have c3b0 : ((l0.length : Int) == (l1.length : Int)) = true := beq_iff_eq.mpr c3
  have c3b1 : ((l0.length : Int) != (l1.length : Int)) = false := bne_eq_false_iff_eq.mpr c3
  have c3b2 : (l0.length == l1.length) = true := by first | simpa using c3 | (simp at c3 ⊢; omega)
  clear c3
  have H' := Aside0.mk H
  clear H
  go_enter Try.func11, Try.ntmps11
  go_wp2
  repeat (go_quiet (fail); try go_wp2)
  go_loopg [5] k (fun kq v5 w' => ∃ (x5_1 : Int), v5 = .int .i64 x5_1 ∧ Aside0 (errataref20_Same.l0 kq l0 l1 x5_1 = some r) ∧ Aside0 (kq ≤ k) ∧ Drawn0 w w')
  case atStart => exact ⟨(0), (by first | rfl | (simp; done) | (simp [*]; done)), H', ⟨Nat.le_refl _⟩, by repeat (first | exact Drawn0.refl _ | apply Drawn0.step)⟩
  case round =>
   clear H'
   try clear c1
   try clear p2
   try clear c3
   try clear c3b0
   try clear c3b1
   try clear c3b2
   obtain ⟨x5_1, rfl, HA, HK1, ⟨m1, rfl⟩⟩ := hrel
   cases gk with
   | zero => exact absurd HA.out (by simp [errataref20_Same.l0])
   | succ k1 =>
    have H := HA.out
    clear HA
    simp only [errataref20_Same.l0] at H
    by_cases c4 : x5_1 < (l0.length : Int)
    ·
     rw [if_pos c4] at H
     have c4b0 : decide (x5_1 < (l0.length : Int)) = true := decide_eq_true c4
     clear c4
     by_cases c5 : 0 ≤ x5_1
     case neg => rw [if_neg c5] at H; exact absurd H (by simp)
     rw [if_pos c5] at H
     have c5b0 : decide (0 ≤ x5_1) = true := decide_eq_true c5
     clear c5
     by_cases c6 : x5_1 < (l1.length : Int)
     case neg => rw [if_neg c6] at H; exact absurd H (by simp)
     rw [if_pos c6] at H
     have c6b0 : decide (x5_1 < (l1.length : Int)) = true := decide_eq_true c6
     clear c6
     by_cases c7 : (!(((rd_T37 l0 x5_1).f0) == ((rd_T37 l1 x5_1).f0)) || (!(((rd_T37 l0 x5_1).f1) == ((rd_T37 l1 x5_1).f1)) || (!(((rd_T37 l0 x5_1).f2) == ((rd_T37 l1 x5_1).f2)) || (!(((rd_T37 l0 x5_1).f3) == ((rd_T37 l1 x5_1).f3)))))) = true
     ·
      rw [if_pos c7] at H
      have c7b0 : (!(((rd_T37 l0 x5_1).f0) == ((rd_T37 l1 x5_1).f0)) || (!(((rd_T37 l0 x5_1).f1) == ((rd_T37 l1 x5_1).f1)) || (!(((rd_T37 l0 x5_1).f2) == ((rd_T37 l1 x5_1).f2)) || (!(((rd_T37 l0 x5_1).f3) == ((rd_T37 l1 x5_1).f3)))))) = true := c7
      clear c7
      obtain rfl := Option.some.inj H
      have p191 : 0 ≤ (x5_1 : Int) := odA
      have q191 : x5_1 < (l0.length : Int) := odA
      obtain ⟨ad191, e191, hx191_0, hx191_1, hx191_2, hx191_3⟩ := at_T37 HR0.out x5_1 p191 q191
      cases e191
      replace p191 := eq_true p191
      replace q191 := eq_true q191
      have p192 : 0 ≤ (x5_1 : Int) := odA
      have q192 : x5_1 < (l1.length : Int) := odA
      obtain ⟨ad192, e192, hx192_0, hx192_1, hx192_2, hx192_3⟩ := at_T37 HR1.out x5_1 p192 q192
      cases e192
      replace p192 := eq_true p192
      replace q192 := eq_true q192
      go_wp2
      repeat (go_quiet (fail); try go_wp2)
      go_ret
      exact ⟨by first | rfl | (simp; done) | (simp [*]; done), by repeat (first | exact Drawn0.refl _ | apply Drawn0.step)⟩
     ·
      rw [if_neg c7] at H
      have c7b0 : (!(((rd_T37 l0 x5_1).f0) == ((rd_T37 l1 x5_1).f0)) || (!(((rd_T37 l0 x5_1).f1) == ((rd_T37 l1 x5_1).f1)) || (!(((rd_T37 l0 x5_1).f2) == ((rd_T37 l1 x5_1).f2)) || (!(((rd_T37 l0 x5_1).f3) == ((rd_T37 l1 x5_1).f3)))))) = false := by simpa using c7
      clear c7
      have H' := Aside0.mk H
      clear H
      have p191 : 0 ≤ (x5_1 : Int) := odA
      have q191 : x5_1 < (l0.length : Int) := odA
      obtain ⟨ad191, e191, hx191_0, hx191_1, hx191_2, hx191_3⟩ := at_T37 HR0.out x5_1 p191 q191
      cases e191
      replace p191 := eq_true p191
      replace q191 := eq_true q191
      have p192 : 0 ≤ (x5_1 : Int) := odA
      have q192 : x5_1 < (l1.length : Int) := odA
      obtain ⟨ad192, e192, hx192_0, hx192_1, hx192_2, hx192_3⟩ := at_T37 HR1.out x5_1 p192 q192
      cases e192
      replace p192 := eq_true p192
      replace q192 := eq_true q192
      go_wp2
      repeat (go_quiet (fail); try go_wp2)
      go_roundg k1
      case measure => have := HK1.out; omega
      case rel => exact ⟨(wrap64 (x5_1 + 1)), (by first | rfl | (simp; done) | (simp [*]; done)), H', ⟨by have := HK1.out; omega⟩, by repeat (first | exact Drawn0.refl _ | apply Drawn0.step)⟩
    ·
     rw [if_neg c4] at H
     have c4b0 : decide (x5_1 < (l0.length : Int)) = false := decide_eq_false c4
     clear c4
     obtain rfl := Option.some.inj H
     go_wp2
     repeat (go_quiet (fail); try go_wp2)
     go_ret
     exact ⟨by first | rfl | (simp; done) | (simp [*]; done), by repeat (first | exact Drawn0.refl _ | apply Drawn0.step)⟩
 ·
  rw [if_neg c3] at H
  have c3b0 : ((l0.length : Int) == (l1.length : Int)) = false := beq_eq_false_iff_ne.mpr c3
  have c3b1 : ((l0.length : Int) != (l1.length : Int)) = true := bne_iff_ne.mpr c3
  have c3b2 : (l0.length == l1.length) = false := by first | simpa using c3 | (simp at c3 ⊢; omega)
  obtain rfl := Option.some.inj H
  go_enter Try.func11, Try.ntmps11
  go_wp2
  repeat (go_quiet (fail); try go_wp2)
  go_ret
  exact ⟨by first | rfl | (simp; done) | (simp [*]; done), by repeat (first | exact Drawn0.refl _ | apply Drawn0.step)⟩

end Go.Proofs.Yteoljddobfnfiaa.PB
end
