/- Part 5 of a proof: texts of this claim, joined by a program of this session's work; what is proved stands in the last part. No condition. -/
import Derived.Test.YteoljddobfnfiaaKC4
section
namespace Go.Proofs.Yteoljddobfnfiaa.PB
open Go.RowKit Go.Proofs.YteoljddobfnfiaaW.PrintWords Go.Proofs.YteoljddobfnfiaaW.PrintLast Go.Proofs.YteoljddobfnfiaaW.PrintMore
attribute [local go_sem] max2_int min2_int max_two min_two max_three min_three max_four min_four
attribute [local go_sem ↓ high] Go.Proofs.Yteoljddobfnfiaa.My.ld44_eq Go.Proofs.Yteoljddobfnfiaa.My.st44_eq Go.Proofs.Yteoljddobfnfiaa.My.ld27_eq Go.Proofs.Yteoljddobfnfiaa.My.st27_eq Go.Proofs.Yteoljddobfnfiaa.My.ld37_eq Go.Proofs.Yteoljddobfnfiaa.My.st37_eq Go.Proofs.Yteoljddobfnfiaa.My.ld65_eq Go.Proofs.Yteoljddobfnfiaa.My.st65_eq
attribute [local go_sem high] Go.Proofs.Yteoljddobfnfiaa.My.ld44_run Go.Proofs.Yteoljddobfnfiaa.My.st44_run Go.Proofs.Yteoljddobfnfiaa.My.ld27_run Go.Proofs.Yteoljddobfnfiaa.My.st27_run Go.Proofs.Yteoljddobfnfiaa.My.ld37_run Go.Proofs.Yteoljddobfnfiaa.My.st37_run Go.Proofs.Yteoljddobfnfiaa.My.ld65_run Go.Proofs.Yteoljddobfnfiaa.My.st65_run
open Go.Proofs.Yteoljddobfnfiaa.My
attribute [local go_sem] cell_map run_store_fnV one_int one_bool one_string one_slice one_fnV
set_option linter.unusedVariables false
set_option linter.unusedSimpArgs false

mutual
def errataref20_Analyze.j0 : Nat → Bool → List (S95) → List (S44) → Int → Int → Int → Int → Int → Int → Option ((List (S37)) × Int × Int)
  | 0, _, _, _, _, _, _, _, _, _ => none
  | k + 1, x21, x383000, x383001, x384000, x384001, x384002, x384003, x384004, x384005 => if x21 = true then (some (([] : List (S37)), (-1), 2)) else (errataref20_Analyze.l0 k ([] : List (S37)) 0 x383000 x383001 x384000 x384001 x384002 x384003 x384004 x384005)
def errataref20_Analyze.l0 : Nat → List (S37) → Int → List (S95) → List (S44) → Int → Int → Int → Int → Int → Int → Option ((List (S37)) × Int × Int)
  | 0, _, _, _, _, _, _, _, _, _, _ => none
  | k + 1, x7, x8, x383000, x383001, x384000, x384001, x384002, x384003, x384004, x384005 => if x8 < (x383001.length : Int) then (if 0 ≤ x8 then ((errataref20_Bounded.f ((rd_T44 x383001 x8).f0) ((rd_T44 x383001 x8).f1) ((rd_T44 x383001 x8).f2) ((rd_T44 x383001 x8).f3) ((rd_T44 x383001 x8).f4) ((rd_T44 x383001 x8).f5) ((rd_T44 x383001 x8).f6) ((rd_T44 x383001 x8).f7) ((rd_T44 x383001 x8).f8) ((rd_T44 x383001 x8).f9) ((rd_T44 x383001 x8).f10) ((rd_T44 x383001 x8).f11) ((rd_T44 x383001 x8).f12) ((rd_T44 x383001 x8).f13) ((rd_T44 x383001 x8).f14) ((rd_T44 x383001 x8).f15)).bind fun t388 => (if t388 = true then ((errataref20_Own.f ((rd_T44 x383001 x8).f0) ((rd_T44 x383001 x8).f1) ((rd_T44 x383001 x8).f2) ((rd_T44 x383001 x8).f3) ((rd_T44 x383001 x8).f4) ((rd_T44 x383001 x8).f5) ((rd_T44 x383001 x8).f6) ((rd_T44 x383001 x8).f7) ((rd_T44 x383001 x8).f8) ((rd_T44 x383001 x8).f9) ((rd_T44 x383001 x8).f10) ((rd_T44 x383001 x8).f11) ((rd_T44 x383001 x8).f12) ((rd_T44 x383001 x8).f13) ((rd_T44 x383001 x8).f14) ((rd_T44 x383001 x8).f15)).bind fun bt389 => ((errataref20_rate.f k ((rd_T44 x383001 x8).f0) ((rd_T44 x383001 x8).f1) ((rd_T44 x383001 x8).f2) ((rd_T44 x383001 x8).f3) ((rd_T44 x383001 x8).f4) ((rd_T44 x383001 x8).f5) ((rd_T44 x383001 x8).f6) ((rd_T44 x383001 x8).f7) ((rd_T44 x383001 x8).f8) ((rd_T44 x383001 x8).f9) ((rd_T44 x383001 x8).f10) ((rd_T44 x383001 x8).f11) ((rd_T44 x383001 x8).f12) ((rd_T44 x383001 x8).f13) ((rd_T44 x383001 x8).f14) ((rd_T44 x383001 x8).f15) x7 x384000 x384001 x384002 x384003 x384004 x384005).bind fun t391 => ((errataref20_state.f k ((rd_T44 x383001 x8).f0) ((rd_T44 x383001 x8).f1) ((rd_T44 x383001 x8).f2) ((rd_T44 x383001 x8).f3) ((rd_T44 x383001 x8).f4) ((rd_T44 x383001 x8).f5) ((rd_T44 x383001 x8).f6) ((rd_T44 x383001 x8).f7) ((rd_T44 x383001 x8).f8) ((rd_T44 x383001 x8).f9) ((rd_T44 x383001 x8).f10) ((rd_T44 x383001 x8).f11) ((rd_T44 x383001 x8).f12) ((rd_T44 x383001 x8).f13) ((rd_T44 x383001 x8).f14) ((rd_T44 x383001 x8).f15) x7 x384000 x384001 x384002 x384003 x384004 x384005).bind fun t392 => (errataref20_Analyze.l1 k x7 x8 bt389.1 bt389.2 0 x383000 x383001 x384000 x384001 x384002 x384003 x384004 x384005 ((rd_T44 x383001 x8).f0) ((rd_T44 x383001 x8).f1) ((rd_T44 x383001 x8).f2) ((rd_T44 x383001 x8).f3) ((rd_T44 x383001 x8).f4) ((rd_T44 x383001 x8).f5) ((rd_T44 x383001 x8).f6) ((rd_T44 x383001 x8).f7) ((rd_T44 x383001 x8).f8) ((rd_T44 x383001 x8).f9) ((rd_T44 x383001 x8).f10) ((rd_T44 x383001 x8).f11) ((rd_T44 x383001 x8).f12) ((rd_T44 x383001 x8).f13) ((rd_T44 x383001 x8).f14) ((rd_T44 x383001 x8).f15) 0 0 t391 t392)))) else (some (([] : List (S37)), x8, 14)))) else (none)) else (some (x7, (-1), 0))
def errataref20_Analyze.l1 : Nat → List (S37) → Int → Int → Int → Int → List (S95) → List (S44) → Int → Int → Int → Int → Int → Int → Int → List Int → ByteArray → Int → List (S93) → Int → Int → Int → List Int → List Int → Int → Int → Int → List (S97) → List (S99) → List (S50) → Int → Int → Int → Int → Option ((List (S37)) × Int × Int)
  | 0, _, _, _, _, _, _, _, _, _, _, _, _, _, _, _, _, _, _, _, _, _, _, _, _, _, _, _, _, _, _, _, _, _ => none
  | k + 1, x7, x8, x10, x11, x13, x383000, x383001, x384000, x384001, x384002, x384003, x384004, x384005, x388000, x388001, x388002, x388003, x388004, x388005, x388006, x388007, x388008, x388009, x388010, x388011, x388012, x388013, x388014, x388015, x394000, x394001, x394002, x394003 => if x13 < (x388001.length : Int) then (if 0 ≤ x13 then (if 0 ≤ (rd x388001 x13) then (if (rd x388001 x13) < (x7.length : Int) then (errataref20_Analyze.l1 k x7 x8 x10 x11 (wrap64 (x13 + 1)) x383000 x383001 x384000 x384001 x384002 x384003 x384004 x384005 x388000 x388001 x388002 x388003 x388004 x388005 x388006 x388007 x388008 x388009 x388010 x388011 x388012 x388013 x388014 x388015 (mx x394000 ((rd_T37 x7 (rd x388001 x13)).f0)) (mx x394001 ((rd_T37 x7 (rd x388001 x13)).f1)) x394002 x394003) else (none)) else (none)) else (none)) else (if x394002 ≥ 1099511627776 then (some (([] : List (S37)), x8, 14)) else (if x394003 ≥ 1099511627776 then (some (([] : List (S37)), x8, 14)) else (if x7.length < 4398046511104 then (errataref20_Analyze.l0 k (x7 ++ [(⟨wrap64 (x394000 + x10), wrap64 (x394001 + x11), x394002, x394003⟩ : S37)]) (wrap64 (x8 + 1)) x383000 x383001 x384000 x384001 x384002 x384003 x384004 x384005) else (none))))
end
def errataref20_Analyze.f (k : Nat) (l0_0 : List (S95)) (l0_1 : List (S44)) (a1_0 : Int) (a1_1 : Int) (a1_2 : Int) (a1_3 : Int) (a1_4 : Int) (a1_5 : Int) : Option ((List (S37)) × Int × Int) := (errataref20_RightConfig.f a1_0 a1_1 a1_2 a1_3 a1_4 a1_5).bind fun t384 => (if t384 = true then ((errataref20_Well.f k l0_0 l0_1).bind fun t385 => (errataref20_Analyze.j0 k (!t385) l0_0 l0_1 a1_0 a1_1 a1_2 a1_3 a1_4 a1_5)) else (errataref20_Analyze.j0 k true l0_0 l0_1 a1_0 a1_1 a1_2 a1_3 a1_4 a1_5))
def errataref20_Analyze.T11 : Bool × List (List Nat × List Nat) := (true, [([], []), ([], []), ([], []), ([0, 1, 2], [0, 1, 2]), ([], []), ([], []), ([], []), ([4, 5, 6, 3], [4, 5, 6]), ([3, 7], [3, 7]), ([], []), ([9, 8, 7, 0, 1, 2, 3, 4, 5, 6, 7, 8, 9], [8, 9])])
def errataref20_Analyze.B11 : List Nat := [0, 0, 0, 7, 0, 0, 0, 127, 255, 0, 1023]
theorem errataref20_Analyze.tab11 : rtab .any (opsOf Try.f14 11) = errataref20_Analyze.T11 := by kernel_rfl
theorem errataref20_Analyze.bits11 : waitsOk errataref20_Analyze.T11.2 errataref20_Analyze.B11 = true := by kernel_rfl
def errataref20_Analyze.T15 : Bool × List (List Nat × List Nat) := (true, [([], []), ([0], [0]), ([], []), ([], []), ([3], [3]), ([], []), ([4, 5], [4, 5]), ([6], [6]), ([2, 7], [2, 7]), ([8], [8]), ([9], [9]), ([1, 10], [1, 10]), ([0, 1, 2, 3, 4, 5, 6, 7, 8, 9, 10, 11], []), ([12, 11, 0, 1, 2, 3, 4, 5, 6, 7, 8, 9, 10, 11], [11, 12])])
def errataref20_Analyze.B15 : List Nat := [0, 1, 0, 0, 8, 0, 56, 120, 252, 508, 1020, 2047, 4095, 8191]
theorem errataref20_Analyze.tab15 : rtab .any (opsOf Try.f14 15) = errataref20_Analyze.T15 := by kernel_rfl
theorem errataref20_Analyze.bits15 : waitsOk errataref20_Analyze.T15.2 errataref20_Analyze.B15 = true := by kernel_rfl
def errataref20_Analyze.T16 : Bool × List (List Nat × List Nat) := (true, [([], []), ([0], [0]), ([], []), ([], []), ([3], [3]), ([], []), ([4, 5], [4, 5]), ([6], [6]), ([2, 7], [2, 7]), ([8], [8]), ([9], [9]), ([1, 10], [1, 10]), ([0, 1, 2, 3, 4, 5, 6, 7, 8, 9, 10, 11], []), ([12, 11, 0, 1, 2, 3, 4, 5, 6, 7, 8, 9, 10, 11], [11, 12])])
def errataref20_Analyze.B16 : List Nat := [0, 1, 0, 0, 8, 0, 56, 120, 252, 508, 1020, 2047, 4095, 8191]
theorem errataref20_Analyze.tab16 : rtab .any (opsOf Try.f14 16) = errataref20_Analyze.T16 := by kernel_rfl
theorem errataref20_Analyze.bits16 : waitsOk errataref20_Analyze.T16.2 errataref20_Analyze.B16 = true := by kernel_rfl
set_option maxHeartbeats 8000000 in
set_option maxRecDepth 100000 in
theorem errataref20_Analyze.calls (k : Nat) (A0_0 : Option Addr) (c0_0 : Nat) (l0_0 : List (S95)) (A0_1 : Option Addr) (c0_1 : Nat) (l0_1 : List (S44)) (a1_0 : Int) (a1_1 : Int) (a1_2 : Int) (a1_3 : Int) (a1_4 : Int) (a1_5 : Int) (r1 : List (S37)) (r2 : Int) (r3 : Int) (w : World) (hr0_0 : Kd.C k95 w A0_0 l0_0.length l0_0) (hc0_0 : l0_0.length ≤ c0_0) (hr0_1 : Kd.C k44 w A0_1 l0_1.length l0_1) (hc0_1 : l0_1.length ≤ c0_1) (h : errataref20_Analyze.f k l0_0 l0_1 a1_0 a1_1 a1_2 a1_3 a1_4 a1_5 = some (r1, r2, r3)) :
    Calls Try.prog 14 #[.agg #[.slice A0_0 l0_0.length c0_0, .slice A0_1 l0_1.length c0_1], .agg #[.int .i64 a1_0, .int .i64 a1_1, .int .i64 a1_2, .int .i64 a1_3, .int .i64 a1_4, .int .i64 a1_5]] w fun e w' => ∃ v0_ : Value, e = .returned (.tuple #[v0_, .int .i64 r2, .int .i64 r3]) ∧ Kd.R k37 37 w' w.heap.size (fun _ => True) v0_ r1 ∧ Below w.heap.size w w' := by
 have hu25 := Try.underlying25
 have hu27 := Try.underlying27
 have hu44 := Try.underlying44
 have hu37 := Try.underlying37
 have HR0_0 := Aside0.mk hr0_0
 have HC0_0 := Aside0.mk hc0_0
 clear hr0_0 hc0_0
 have HR0_1 := Aside0.mk hr0_1
 have HC0_1 := Aside0.mk hc0_1
 clear hr0_1 hc0_1
 have HB := Aside0.mk (Below.refl w.heap.size w)
 have H : ((errataref20_RightConfig.f a1_0 a1_1 a1_2 a1_3 a1_4 a1_5).bind fun t384 => (if t384 = true then ((errataref20_Well.f k l0_0 l0_1).bind fun t385 => (errataref20_Analyze.j0 k (!t385) l0_0 l0_1 a1_0 a1_1 a1_2 a1_3 a1_4 a1_5)) else (errataref20_Analyze.j0 k true l0_0 l0_1 a1_0 a1_1 a1_2 a1_3 a1_4 a1_5))) = some (r1, r2, r3) := h
 clear h
 have HC3 := Aside0.mk H
 clear H
 go_enter Try.func14, Try.ntmps14
 go_upto_region 1 with (first | ((with_reducible refine gate_dst (N := 2) rfl ?_); refine box_event ?hg (N := 2) ?hd (cs := #[.slice A0_0 l0_0.length c0_0, .slice A0_1 l0_1.length c0_1]) (t := 25) ?hr ?_; (case hd => rfl); (case hg => rfl); (case hr => first | (go_simp; done) | (go_simp; rfl)); intro gb382 hg w4 hbox hb; have BK382 := Aside0.mk (hbox); have GW382 := Aside0.mk ((by rw [hg]; exact below_sizeA : w.heap.size ≤ gb382)); have GE382 := GW382; replace HB := Aside0.mk (below_stepA hb); clear hb hbox hg) | ((with_reducible refine gate_dst (N := 3) rfl ?_); refine box_event ?hg (N := 3) ?hd (cs := #[.int .i64 a1_0, .int .i64 a1_1, .int .i64 a1_2, .int .i64 a1_3, .int .i64 a1_4, .int .i64 a1_5]) (t := 27) ?hr ?_; (case hd => rfl); (case hg => rfl); (case hr => first | (go_simp; done) | (go_simp; rfl)); intro gb383 hg w5 hbox hb; have BK383 := Aside0.mk (hbox); have GW383 := Aside0.mk ((by rw [hg]; exact below_sizeA : w.heap.size ≤ gb383)); have GE383 := GW383; have NB382_383 := Aside0.mk ((by rw [hg]; exact Nat.ne_of_lt (blk_ltKA BK382.out) : gb382 ≠ gb383)); have NB383_382 := Aside0.mk NB382_383.out.symm; replace BK382 := Aside0.mk (blk_keepA BK382.out hb); replace HB := Aside0.mk (below_stepA hb); clear hb hbox hg))
 (try simp only [Act.put, List.setIfInBounds_toArray, List.set_cons_zero, List.set_cons_succ])
 go_cut [21] (fun v21 wc => ∃ (kq : Nat) (x21_2 : Bool), v21 = .bool x21_2 ∧ Aside0 (errataref20_Analyze.j0 kq x21_2 l0_0 l0_1 a1_0 a1_1 a1_2 a1_3 a1_4 a1_5 = some (r1, r2, r3)) ∧ Aside0 (kq ≤ k) ∧ Aside0 (wc.heap[gb382]? = some (.cells #[(.slice A0_0 l0_0.length c0_0), (.slice A0_1 l0_1.length c0_1)] 25 (0, 0))) ∧ Aside0 (wc.heap[gb383]? = some (.cells #[.int .i64 a1_0, .int .i64 a1_1, .int .i64 a1_2, .int .i64 a1_3, .int .i64 a1_4, .int .i64 a1_5] 27 (0, 0))) ∧ Aside0 (Below w.heap.size w wc))
 case first =>
  have H := HC3.out
  clear HC3
  replace H := Option.bind_eq_some_iff.mp H
  obtain ⟨t384, A60, H⟩ := H
  try dsimp only at H
  have A6 := Aside0.mk A60
  clear A60
  by_cases c7 : t384 = true
  ·
   subst c7
   rw [if_pos rfl] at H
   replace H := Option.bind_eq_some_iff.mp H
   obtain ⟨t385, A80, H⟩ := H
   try dsimp only at H
   have A8 := Aside0.mk A80
   clear A80
   have H' := Aside0.mk H
   clear H
   have hnb9 := NB383_382.out
   have hnc9 := NB382_383.out
   have hz10 := blk6 BK383.out
   go_wp2_with (first | ((with_reducible refine gate_callee (f := 20) rfl ?_); refine goesL_ (some 15) rfl rfl Try.func20 (by kernel_rfl) rfl #[.agg #[.int .i64 a1_0, .int .i64 a1_1, .int .i64 a1_2, .int .i64 a1_3, .int .i64 a1_4, .int .i64 a1_5]] rfl mapA ?_; (with_reducible refine (errataref20_RightConfig.calls a1_0 a1_1 a1_2 a1_3 a1_4 a1_5 true _ A6.out).mono ?_); rintro e w11 ⟨rfl, hb⟩; refine ⟨_, rfl, ?_⟩; replace BK382 := Aside0.mk (blk_keepA BK382.out hb); replace BK383 := Aside0.mk (blk_keepA BK383.out hb); replace HB := Aside0.mk (below_stepA hb); (try clear hb); have hz12 := blk2 BK382.out) | (go_at_call 22; (with_reducible refine (errataref20_Well.calls k _ _ l0_0 _ _ l0_1 t385 _ (c_belowA HR0_0.out) HC0_0.out (c_belowA HR0_1.out) HC0_1.out A8.out).mono ?_); rintro e w13 ⟨rfl, hb⟩; replace BK382 := Aside0.mk (blk_keepA BK382.out hb); replace BK383 := Aside0.mk (blk_keepA BK383.out hb); replace HB := Aside0.mk (below_stepA hb); (try clear hb)))
   go_meet
   case rel => exact ⟨_, (!t385), (by first | rfl | (simp; done) | (simp [*]; done)), H', ⟨by first | omega | exact Nat.le_refl _⟩, ⟨blk_move BK382.out⟩, ⟨blk_move BK383.out⟩, ⟨by repeat (first | (with_reducible first | exact HB.out | apply below_alloc | apply pw_below_drewN | apply below_drew1 | refine below_set ?_ GE382.out | refine below_set ?_ GE383.out) | exact HB.out)⟩⟩
  ·
   replace c7 := Bool.eq_false_iff.mpr c7
   subst c7
   rw [if_neg (show ¬ (false = true) by decide)] at H
   have H' := Aside0.mk H
   clear H
   have hnb14 := NB383_382.out
   have hnc14 := NB382_383.out
   have hz15 := blk6 BK383.out
   go_wp2_with (first | ((with_reducible refine gate_callee (f := 20) rfl ?_); refine goesL_ (some 15) rfl rfl Try.func20 (by kernel_rfl) rfl #[.agg #[.int .i64 a1_0, .int .i64 a1_1, .int .i64 a1_2, .int .i64 a1_3, .int .i64 a1_4, .int .i64 a1_5]] rfl mapA ?_; (with_reducible refine (errataref20_RightConfig.calls a1_0 a1_1 a1_2 a1_3 a1_4 a1_5 false _ A6.out).mono ?_); rintro e w16 ⟨rfl, hb⟩; refine ⟨_, rfl, ?_⟩; replace BK382 := Aside0.mk (blk_keepA BK382.out hb); replace BK383 := Aside0.mk (blk_keepA BK383.out hb); replace HB := Aside0.mk (below_stepA hb); (try clear hb)))
   go_meet
   case rel => exact ⟨_, (true), (by first | rfl | (simp; done) | (simp [*]; done)), H', ⟨by first | omega | exact Nat.le_refl _⟩, ⟨blk_move BK382.out⟩, ⟨blk_move BK383.out⟩, ⟨by repeat (first | (with_reducible first | exact HB.out | apply below_alloc | apply pw_below_drewN | apply below_drew1 | refine below_set ?_ GE382.out | refine below_set ?_ GE383.out) | exact HB.out)⟩⟩
 case rest =>
  clear HC3
  try clear c1
  try clear c2
  try clear p2
  try clear c7
  try clear c9
  try clear c14
  try clear hz10
  try clear hz12
  try clear hz15
  obtain ⟨kq, x21_2, rfl, HA, HJ2, BK382, BK383, HB⟩ := hcut
  cases kq with
  | zero => exact absurd HA.out (by simp [errataref20_Analyze.j0])
  | succ kj2 =>
   have H := HA.out
   clear HA
   simp only [errataref20_Analyze.j0] at H
   by_cases c17 : x21_2 = true
   ·
    subst c17
    rw [if_pos rfl] at H
    simp only [Option.some.injEq, Prod.mk.injEq] at H
    obtain ⟨rfl, rfl, rfl⟩ := H
    go_wp2
    go_ret3
    exact ⟨_, by first | rfl | (simp [errW_none, errW_some] <;> rfl) | (simp [*, errW_none, errW_some] <;> rfl), by first | exact Kd.R_nil _ _ _ _ _ | exact Kd.N_nil _ _ _ _ _ | exact Kd.V_nil _ _ _ _ _ | exact Kd.Q_nil _ _ _ _ _ | exact Kd.S_nil _ _ _ _ _, belowA⟩
   ·
    replace c17 := Bool.eq_false_iff.mpr c17
    subst c17
    rw [if_neg (show ¬ (false = true) by decide)] at H
    have H' := Aside0.mk H
    clear H
    go_wp2
    go_loopg [7, 8] kj2 (fun kq v7 v8 w' => ∃ (x7_2 : List (S37)) (x8_2 : Int), v8 = .int .i64 x8_2 ∧ Aside0 (errataref20_Analyze.l0 kq x7_2 x8_2 l0_0 l0_1 a1_0 a1_1 a1_2 a1_3 a1_4 a1_5 = some (r1, r2, r3)) ∧ Aside0 (kq ≤ kj2) ∧ Aside0 (Kd.R k37 37 w' w.heap.size (fun _ => True) v7 x7_2) ∧ Aside0 (w'.heap[gb382]? = some (.cells #[(.slice A0_0 l0_0.length c0_0), (.slice A0_1 l0_1.length c0_1)] 25 (0, 0))) ∧ Aside0 (w'.heap[gb383]? = some (.cells #[.int .i64 a1_0, .int .i64 a1_1, .int .i64 a1_2, .int .i64 a1_3, .int .i64 a1_4, .int .i64 a1_5] 27 (0, 0))) ∧ Aside0 (Below w.heap.size w w'))
    case atStart => exact ⟨(([] : List (S37))), (0), (by first | rfl | (simp; done) | (simp [*]; done)), H', ⟨Nat.le_refl _⟩, ⟨by first | exact Kd.R_nil _ _ _ _ _ | exact Kd.N_nil _ _ _ _ _ | exact Kd.V_nil _ _ _ _ _ | exact Kd.Q_nil _ _ _ _ _ | exact Kd.S_nil _ _ _ _ _⟩, ⟨blk_move BK382.out⟩, ⟨blk_move BK383.out⟩, ⟨by repeat (first | (with_reducible first | exact HB.out | apply below_alloc | apply pw_below_drewN | apply below_drew1 | refine below_set ?_ GE382.out | refine below_set ?_ GE383.out) | exact HB.out)⟩⟩
    case round =>
     clear H'
     try clear c1
     try clear c2
     try clear p2
     try clear c7
     try clear c9
     try clear c14
     try clear c17
     try clear hz10
     try clear hz12
     try clear hz15
     try clear p2
     obtain ⟨x7_2, x8_2, rfl, HA, HK2, HO_7, BK382, BK383, HB⟩ := hrel
     cases gk with
     | zero => exact absurd HA.out (by simp [errataref20_Analyze.l0])
     | succ k2 =>
      have H := HA.out
      clear HA
      simp only [errataref20_Analyze.l0] at H
      by_cases c18 : x8_2 < (l0_1.length : Int)
      ·
       rw [if_pos c18] at H
       have c18b0 : decide (x8_2 < (l0_1.length : Int)) = true := decide_eq_true c18
       clear c18
       by_cases c19 : 0 ≤ x8_2
       case neg => rw [if_neg c19] at H; exact absurd H (by simp)
       rw [if_pos c19] at H
       have c19b0 : decide (0 ≤ x8_2) = true := decide_eq_true c19
       clear c19
       replace H := Option.bind_eq_some_iff.mp H
       obtain ⟨t388, A200, H⟩ := H
       try dsimp only at H
       have A20 := Aside0.mk A200
       clear A200
       by_cases c21 : t388 = true
       ·
        subst c21
        rw [if_pos rfl] at H
        replace H := Option.bind_eq_some_iff.mp H
        obtain ⟨⟨t389, t390⟩, A220, H⟩ := H
        try dsimp only at H
        have A22 := Aside0.mk A220
        clear A220
        replace H := Option.bind_eq_some_iff.mp H
        obtain ⟨t391, A230, H⟩ := H
        try dsimp only at H
        have A23 := Aside0.mk A230
        clear A230
        replace H := Option.bind_eq_some_iff.mp H
        obtain ⟨t392, A240, H⟩ := H
        try dsimp only at H
        have A24 := Aside0.mk A240
        clear A240
        have H' := Aside0.mk H
        clear H
        have hnb25 := NB382_383.out
        have hnc25 := NB383_382.out
        have hz26 := blk2 BK382.out
        have p386 : 0 ≤ (x8_2 : Int) := odA
        have q386 : x8_2 < (l0_1.length : Int) := odA
        obtain ⟨ad386, A386_1, c386_1, A386_4, c386_4, A386_8, c386_8, A386_9, c386_9, A386_13, c386_13, A386_14, c386_14, A386_15, c386_15, e386, hx386_0, hx386_1, hx386_2, hx386_3, hx386_4, hx386_5, hx386_6, hx386_7, hx386_8, hx386_9, hx386_10, hx386_11, hx386_12, hx386_13, hx386_14, hx386_15, hl386_1, hi386_1, hl386_4, hi386_4, hl386_8, hi386_8, hl386_9, hi386_9, hl386_13, hi386_13, hl386_14, hi386_14, hl386_15, hi386_15⟩ := at_T44 HR0_1.out x8_2 p386 q386
        cases e386
        replace hx386_0 := pw_cell_below HB.out hx386_0
        replace hx386_1 := pw_cell_below HB.out hx386_1
        replace hx386_2 := pw_cell_below HB.out hx386_2
        replace hx386_3 := pw_cell_below HB.out hx386_3
        replace hx386_4 := pw_cell_below HB.out hx386_4
        replace hx386_5 := pw_cell_below HB.out hx386_5
        replace hx386_6 := pw_cell_below HB.out hx386_6
        replace hx386_7 := pw_cell_below HB.out hx386_7
        replace hx386_8 := pw_cell_below HB.out hx386_8
        replace hx386_9 := pw_cell_below HB.out hx386_9
        replace hx386_10 := pw_cell_below HB.out hx386_10
        replace hx386_11 := pw_cell_below HB.out hx386_11
        replace hx386_12 := pw_cell_below HB.out hx386_12
        replace hx386_13 := pw_cell_below HB.out hx386_13
        replace hx386_14 := pw_cell_below HB.out hx386_14
        replace hx386_15 := pw_cell_below HB.out hx386_15
        have HR386_1 := Aside0.mk hi386_1
        have HC386_1 := Aside0.mk hl386_1
        clear hi386_1 hl386_1
        have HR386_4 := Aside0.mk hi386_4
        have HC386_4 := Aside0.mk hl386_4
        clear hi386_4 hl386_4
        have HR386_8 := Aside0.mk hi386_8
        have HC386_8 := Aside0.mk hl386_8
        clear hi386_8 hl386_8
        have HR386_9 := Aside0.mk hi386_9
        have HC386_9 := Aside0.mk hl386_9
        clear hi386_9 hl386_9
        have HR386_13 := Aside0.mk hi386_13
        have HC386_13 := Aside0.mk hl386_13
        clear hi386_13 hl386_13
        have HR386_14 := Aside0.mk hi386_14
        have HC386_14 := Aside0.mk hl386_14
        clear hi386_14 hl386_14
        have HR386_15 := Aside0.mk hi386_15
        have HC386_15 := Aside0.mk hl386_15
        clear hi386_15 hl386_15
        replace p386 := eq_true p386
        replace q386 := eq_true q386
        try go_wp2_with (first | ((with_reducible refine gate_dst (N := 9) rfl ?_); refine box_event ?hg (N := 9) ?hd (cs := #[.int .i64 0, .slice none 0 0, .string (⟨#[]⟩ : ByteArray), .int .i64 0, .slice none 0 0, .int .i64 0, .int .i64 0, .int .i64 0, .slice none 0 0, .slice none 0 0, .int .i64 0, .int .i64 0, .int .i64 0, .slice none 0 0, .slice none 0 0, .slice none 0 0]) (t := 44) ?hr ?_; (case hd => rfl); (case hg => rfl); (case hr => first | (go_simp; done) | (go_simp; rfl)); intro gb387 hg w27 hbox hb; have BK387 := Aside0.mk (hbox); have GW387 := Aside0.mk ((by rw [hg]; exact below_sizeA : w.heap.size ≤ gb387)); have GE387 := GW387; have NB382_387 := Aside0.mk ((by rw [hg]; exact Nat.ne_of_lt (blk_ltKA BK382.out) : gb382 ≠ gb387)); have NB387_382 := Aside0.mk NB382_387.out.symm; have NB383_387 := Aside0.mk ((by rw [hg]; exact Nat.ne_of_lt (blk_ltKA BK383.out) : gb383 ≠ gb387)); have NB387_383 := Aside0.mk NB383_387.out.symm; replace HO_7 := Aside0.mk (r_belowA HO_7.out hb); replace BK382 := Aside0.mk (blk_keepA BK382.out hb); replace BK383 := Aside0.mk (blk_keepA BK383.out hb); replace HB := Aside0.mk (below_stepA hb); clear hb hbox hg; have hnb28 := NB387_382.out; have hnc28 := NB382_387.out; have hnb29 := NB387_383.out; have hnc29 := NB383_387.out; have hz30 := blk16 BK387.out) | ((with_reducible refine gate_callee (f := 23) rfl ?_); refine goesL_ (some 35) rfl rfl Try.func23 (by kernel_rfl) rfl #[.agg (A44 (rd_T44 l0_1 x8_2) A386_1 c386_1 A386_4 c386_4 A386_8 c386_8 A386_9 c386_9 A386_13 c386_13 A386_14 c386_14 A386_15 c386_15)] rfl mapA ?_; (with_reducible refine (errataref20_Bounded.calls _ _ _ _ _ _ _ _ _ _ _ _ _ _ _ _ _ _ _ _ _ _ _ _ _ _ _ _ _ _ true _ (c_belowB HR386_1.out) HC386_1.out (c_belowB HR386_4.out) HC386_4.out (c_belowB HR386_8.out) HC386_8.out (c_belowB HR386_9.out) HC386_9.out (c_belowB HR386_13.out) HC386_13.out (c_belowB HR386_14.out) HC386_14.out (c_belowB HR386_15.out) HC386_15.out A20.out).mono ?_); rintro e w31 ⟨rfl, hb⟩; refine ⟨_, rfl, ?_⟩; replace HO_7 := Aside0.mk (r_belowT HO_7.out BK387.out hb); replace BK382 := Aside0.mk (blk_keepA BK382.out hb); replace BK383 := Aside0.mk (blk_keepA BK383.out hb); replace BK387 := Aside0.mk (blk_below (g := gb387) (o := .cells (A44 (rd_T44 l0_1 x8_2) A386_1 c386_1 A386_4 c386_4 A386_8 c386_8 A386_9 c386_9 A386_13 c386_13 A386_14 c386_14 A386_15 c386_15) 44 (0, 0)) (blk_move BK387.out) hb); replace HB := Aside0.mk (below_stepA hb); (try clear hb); have hz32 := blk16 BK387.out) | ((with_reducible refine gate_callee (f := 18) rfl ?_); refine goesL_ (some 40) rfl rfl Try.func18 (by kernel_rfl) rfl #[.agg (A44 (rd_T44 l0_1 x8_2) A386_1 c386_1 A386_4 c386_4 A386_8 c386_8 A386_9 c386_9 A386_13 c386_13 A386_14 c386_14 A386_15 c386_15)] rfl mapA ?_; (with_reducible refine (errataref20_Own.calls _ _ _ _ _ _ _ _ _ _ _ _ _ _ _ _ _ _ _ _ _ _ _ _ _ _ _ _ _ _ t389 t390 _ (c_belowA HR386_1.out) HC386_1.out (c_belowA HR386_4.out) HC386_4.out (c_belowA HR386_8.out) HC386_8.out (c_belowA HR386_9.out) HC386_9.out (c_belowA HR386_13.out) HC386_13.out (c_belowA HR386_14.out) HC386_14.out (c_belowA HR386_15.out) HC386_15.out A22.out).mono ?_); rintro e w33 ⟨rfl, hb⟩; refine ⟨_, rfl, ?_⟩; replace HO_7 := Aside0.mk (r_belowA HO_7.out hb); replace BK382 := Aside0.mk (blk_keepA BK382.out hb); replace BK383 := Aside0.mk (blk_keepA BK383.out hb); replace BK387 := Aside0.mk (blk_keepA BK387.out hb); replace HB := Aside0.mk (below_stepA hb); (try clear hb); obtain ⟨Ao34, co34, eo34⟩ := Kd.R_slice HO_7.out; subst eo34))
        have n0_ := Aside0.mk (Kd.R_drew HO_7.out)
        have n1_ := Aside0.mk (blk_drew BK382.out)
        have n2_ := Aside0.mk (blk_drew BK383.out)
        have n3_ := Aside0.mk (blk_drew BK387.out)
        have n4_ := Aside0.mk (below_drew1 HB.out)
        clear HO_7
        clear BK382
        clear BK383
        clear BK387
        clear HB
        have HO_7 := n0_
        have BK382 := n1_
        have BK383 := n2_
        have BK387 := n3_
        have HB := n4_
        clear n0_ n1_ n2_ n3_ n4_
        refine start_ (n := 11) (S := fun w' => w'.cell? ⟨gb387, 0, none⟩ = some (.int .i64 ((rd_T44 l0_1 x8_2).f0)) ∧ w'.cell? ⟨gb387, 1, none⟩ = some (.slice A386_1 ((rd_T44 l0_1 x8_2).f1).length c386_1) ∧ w'.cell? ⟨gb387, 2, none⟩ = some (.string ((rd_T44 l0_1 x8_2).f2)) ∧ w'.cell? ⟨gb387, 3, none⟩ = some (.int .i64 ((rd_T44 l0_1 x8_2).f3)) ∧ w'.cell? ⟨gb387, 4, none⟩ = some (.slice A386_4 ((rd_T44 l0_1 x8_2).f4).length c386_4) ∧ w'.cell? ⟨gb387, 5, none⟩ = some (.int .i64 ((rd_T44 l0_1 x8_2).f5)) ∧ w'.cell? ⟨gb387, 6, none⟩ = some (.int .i64 ((rd_T44 l0_1 x8_2).f6)) ∧ w'.cell? ⟨gb387, 7, none⟩ = some (.int .i64 ((rd_T44 l0_1 x8_2).f7)) ∧ w'.cell? ⟨gb387, 8, none⟩ = some (.slice A386_8 ((rd_T44 l0_1 x8_2).f8).length c386_8) ∧ w'.cell? ⟨gb387, 9, none⟩ = some (.slice A386_9 ((rd_T44 l0_1 x8_2).f9).length c386_9) ∧ w'.cell? ⟨gb387, 10, none⟩ = some (.int .i64 ((rd_T44 l0_1 x8_2).f10)) ∧ w'.cell? ⟨gb387, 11, none⟩ = some (.int .i64 ((rd_T44 l0_1 x8_2).f11)) ∧ w'.cell? ⟨gb387, 12, none⟩ = some (.int .i64 ((rd_T44 l0_1 x8_2).f12)) ∧ w'.cell? ⟨gb387, 13, none⟩ = some (.slice A386_13 ((rd_T44 l0_1 x8_2).f13).length c386_13) ∧ w'.cell? ⟨gb387, 14, none⟩ = some (.slice A386_14 ((rd_T44 l0_1 x8_2).f14).length c386_14) ∧ w'.cell? ⟨gb387, 15, none⟩ = some (.slice A386_15 ((rd_T44 l0_1 x8_2).f15).length c386_15) ∧ w'.cell? ⟨gb383, 0, none⟩ = some (.int .i64 a1_0) ∧ w'.cell? ⟨gb383, 1, none⟩ = some (.int .i64 a1_1) ∧ w'.cell? ⟨gb383, 2, none⟩ = some (.int .i64 a1_2) ∧ w'.cell? ⟨gb383, 3, none⟩ = some (.int .i64 a1_3) ∧ w'.cell? ⟨gb383, 4, none⟩ = some (.int .i64 a1_4) ∧ w'.cell? ⟨gb383, 5, none⟩ = some (.int .i64 a1_5)) (ds := []) #[O,O,O,O,O,O,O,O,O,O,O] (by kernel_rfl) rfl rfl ⟨(blk_cell BK387.out 0).trans rfl, (blk_cell BK387.out 1).trans rfl, (blk_cell BK387.out 2).trans rfl, (blk_cell BK387.out 3).trans rfl, (blk_cell BK387.out 4).trans rfl, (blk_cell BK387.out 5).trans rfl, (blk_cell BK387.out 6).trans rfl, (blk_cell BK387.out 7).trans rfl, (blk_cell BK387.out 8).trans rfl, (blk_cell BK387.out 9).trans rfl, (blk_cell BK387.out 10).trans rfl, (blk_cell BK387.out 11).trans rfl, (blk_cell BK387.out 12).trans rfl, (blk_cell BK387.out 13).trans rfl, (blk_cell BK387.out 14).trans rfl, (blk_cell BK387.out 15).trans rfl, (blk_cell BK383.out 0).trans rfl, (blk_cell BK383.out 1).trans rfl, (blk_cell BK383.out 2).trans rfl, (blk_cell BK383.out 3).trans rfl, (blk_cell BK383.out 4).trans rfl, (blk_cell BK383.out 5).trans rfl⟩ (fun hHeld => ?_); refine with_tabW errataref20_Analyze.tab11 errataref20_Analyze.bits11 (fun HT_ HW_ => ?_)
        generalize w33.drew = w35 at HO_7 BK382 BK383 BK387 HB hHeld ⊢
        refine pureA 1 44 #[O,J,O,O,O,O,O,O,O,O,O] ?_
        refine pureA 5 48 #[O,J,O,O,O,J,O,O,O,O,O] ?_
        refine takeA 0 43 #[J,J,O,O,O,J,O,O,O,O,O] ?_
        refine takeA 2 45 #[J,J,J,O,O,J,O,O,O,O,O] ?_
        refine takeA 4 47 #[J,J,J,O,J,J,O,O,O,O,O] ?_
        refine takeA 6 49 #[J,J,J,O,J,J,J,O,O,O,O] ?_
        refine join_ (σ := Nat) 1 #[J,J,J,J,J,J,J,J,J,J,O] (fun s_ => [(46, .int .i64 t391), (50, .int .i64 t392), (12, .pointer (some ⟨s_, 0, none⟩)), (51, .agg #[.int .i64 0, .int .i64 0, .int .i64 t391, .int .i64 t392])]) (fun s_ w' => (w'.cell? ⟨gb387, 0, none⟩ = some (.int .i64 ((rd_T44 l0_1 x8_2).f0)) ∧ w'.cell? ⟨gb387, 1, none⟩ = some (.slice A386_1 ((rd_T44 l0_1 x8_2).f1).length c386_1) ∧ w'.cell? ⟨gb387, 2, none⟩ = some (.string ((rd_T44 l0_1 x8_2).f2)) ∧ w'.cell? ⟨gb387, 3, none⟩ = some (.int .i64 ((rd_T44 l0_1 x8_2).f3)) ∧ w'.cell? ⟨gb387, 4, none⟩ = some (.slice A386_4 ((rd_T44 l0_1 x8_2).f4).length c386_4) ∧ w'.cell? ⟨gb387, 5, none⟩ = some (.int .i64 ((rd_T44 l0_1 x8_2).f5)) ∧ w'.cell? ⟨gb387, 6, none⟩ = some (.int .i64 ((rd_T44 l0_1 x8_2).f6)) ∧ w'.cell? ⟨gb387, 7, none⟩ = some (.int .i64 ((rd_T44 l0_1 x8_2).f7)) ∧ w'.cell? ⟨gb387, 8, none⟩ = some (.slice A386_8 ((rd_T44 l0_1 x8_2).f8).length c386_8) ∧ w'.cell? ⟨gb387, 9, none⟩ = some (.slice A386_9 ((rd_T44 l0_1 x8_2).f9).length c386_9) ∧ w'.cell? ⟨gb387, 10, none⟩ = some (.int .i64 ((rd_T44 l0_1 x8_2).f10)) ∧ w'.cell? ⟨gb387, 11, none⟩ = some (.int .i64 ((rd_T44 l0_1 x8_2).f11)) ∧ w'.cell? ⟨gb387, 12, none⟩ = some (.int .i64 ((rd_T44 l0_1 x8_2).f12)) ∧ w'.cell? ⟨gb387, 13, none⟩ = some (.slice A386_13 ((rd_T44 l0_1 x8_2).f13).length c386_13) ∧ w'.cell? ⟨gb387, 14, none⟩ = some (.slice A386_14 ((rd_T44 l0_1 x8_2).f14).length c386_14) ∧ w'.cell? ⟨gb387, 15, none⟩ = some (.slice A386_15 ((rd_T44 l0_1 x8_2).f15).length c386_15) ∧ w'.cell? ⟨gb383, 0, none⟩ = some (.int .i64 a1_0) ∧ w'.cell? ⟨gb383, 1, none⟩ = some (.int .i64 a1_1) ∧ w'.cell? ⟨gb383, 2, none⟩ = some (.int .i64 a1_2) ∧ w'.cell? ⟨gb383, 3, none⟩ = some (.int .i64 a1_3) ∧ w'.cell? ⟨gb383, 4, none⟩ = some (.int .i64 a1_4) ∧ w'.cell? ⟨gb383, 5, none⟩ = some (.int .i64 a1_5)) ∧ (Kd.R k37 37 w' w.heap.size (fun k_ => k_ ≠ s_) (.slice Ao34 x7_2.length co34) x7_2) ∧ (w'.heap[gb382]? = some (.cells #[.slice A0_0 l0_0.length c0_0, .slice (some ad386) l0_1.length c0_1] 25 (0, 0))) ∧ (w'.heap[gb383]? = some (.cells #[.int .i64 a1_0, .int .i64 a1_1, .int .i64 a1_2, .int .i64 a1_3, .int .i64 a1_4, .int .i64 a1_5] 27 (0, 0))) ∧ (w'.heap[gb387]? = some (.cells (A44 (rd_T44 l0_1 x8_2) A386_1 c386_1 A386_4 c386_4 A386_8 c386_8 A386_9 c386_9 A386_13 c386_13 A386_14 c386_14 A386_15 c386_15) 44 (0, 0))) ∧ (w'.heap[s_]? = some (.cells #[.int .i64 0, .int .i64 0, .int .i64 0, .int .i64 0] 37 (0, 0))) ∧ (w.heap.size ≤ s_) ∧ (w.heap.size ≤ s_) ∧ (gb382 ≠ s_) ∧ (s_ ≠ gb382) ∧ (gb383 ≠ s_) ∧ (s_ ≠ gb383) ∧ (gb387 ≠ s_) ∧ (s_ ≠ gb387) ∧ (Below w.heap.size w w')) ?_ ?_
        rotate_left
        ·
         intro hCont
         refine two_ (i := 3) (j := 9) (Ni := some 46) (Nj := some 12) #[J,J,J,J,J,J,J,O,O,O,O] #[J,J,J,O,J,J,J,O,O,J,O] rfl rfl rfl rfl (two_of HT_.out (by kernel_rfl)) (by decide) (by decide) (fun K hK => ?_) (fun K hK => ?_)
         ·
          skip
          refine goes_ Try.func30 (by kernel_rfl) rfl #[.agg (A44 (rd_T44 l0_1 x8_2) A386_1 c386_1 A386_4 c386_4 A386_8 c386_8 A386_9 c386_9 A386_13 c386_13 A386_14 c386_14 A386_15 c386_15), .slice Ao34 x7_2.length co34, .agg #[.int .i64 a1_0, .int .i64 a1_1, .int .i64 a1_2, .int .i64 a1_3, .int .i64 a1_4, .int .i64 a1_5]] (by rfl) rfl rfl mapA ?_
          with_reducible refine (errataref20_rate.calls k2 _ _ _ _ _ _ _ _ _ _ _ _ _ _ _ _ _ _ _ _ _ _ _ _ _ _ _ _ _ _ _ _ x7_2 a1_0 a1_1 a1_2 a1_3 a1_4 a1_5 t391 _ ?side1 ?side2 ?side3 ?side4 ?side5 ?side6 ?side7 ?side8 ?side9 ?side10 ?side11 ?side12 ?side13 ?side14 ?side15 ?side16 A23.out).mono ?_
          (case side1 => exact c_belowA HR386_1.out)
          (case side2 => exact HC386_1.out)
          (case side3 => exact c_belowA HR386_4.out)
          (case side4 => exact HC386_4.out)
          (case side5 => exact c_belowA HR386_8.out)
          (case side6 => exact HC386_8.out)
          (case side7 => exact c_belowA HR386_9.out)
          (case side8 => exact HC386_9.out)
          (case side9 => exact c_belowA HR386_13.out)
          (case side10 => exact HC386_13.out)
          (case side11 => exact c_belowA HR386_14.out)
          (case side12 => exact HC386_14.out)
          (case side13 => exact c_belowA HR386_15.out)
          (case side14 => exact HC386_15.out)
          (case side15 => repeat (first | exact (Kd.R_reads' HO_7.out).2.2 | (with_reducible refine Kd.C_alloc ?_ _) | (with_reducible refine Kd.C_drewN ?_ _) | (with_reducible refine Kd.C_drew ?_)))
          (case side16 => exact (Kd.R_reads' HO_7.out).2.1)
          rintro e w36 ⟨rfl, hb⟩
          refine ⟨_, rfl, ?_⟩
          have n0_ := Aside0.mk (r_belowA HO_7.out hb)
          have n1_ := Aside0.mk (blk_keepA BK382.out hb)
          have n2_ := Aside0.mk (blk_keepA BK383.out hb)
          have n3_ := Aside0.mk (blk_keepA BK387.out hb)
          have n4_ := Aside0.mk (below_stepA hb)
          clear HO_7
          clear BK382
          clear BK383
          clear BK387
          clear HB
          have HO_7 := n0_
          have BK382 := n1_
          have BK383 := n2_
          have BK387 := n3_
          have HB := n4_
          clear n0_ n1_ n2_ n3_ n4_
          (try clear hb)
          (try clear hb2)
          (try clear hk)
          (try clear hi)
          refine hK.out _ _ ⟨(blk_cell BK387.out 0).trans rfl, (blk_cell BK387.out 1).trans rfl, (blk_cell BK387.out 2).trans rfl, (blk_cell BK387.out 3).trans rfl, (blk_cell BK387.out 4).trans rfl, (blk_cell BK387.out 5).trans rfl, (blk_cell BK387.out 6).trans rfl, (blk_cell BK387.out 7).trans rfl, (blk_cell BK387.out 8).trans rfl, (blk_cell BK387.out 9).trans rfl, (blk_cell BK387.out 10).trans rfl, (blk_cell BK387.out 11).trans rfl, (blk_cell BK387.out 12).trans rfl, (blk_cell BK387.out 13).trans rfl, (blk_cell BK387.out 14).trans rfl, (blk_cell BK387.out 15).trans rfl, (blk_cell BK383.out 0).trans rfl, (blk_cell BK383.out 1).trans rfl, (blk_cell BK383.out 2).trans rfl, (blk_cell BK383.out 3).trans rfl, (blk_cell BK383.out 4).trans rfl, (blk_cell BK383.out 5).trans rfl⟩ (fun hHeld => ?_)
          clear hK K
          refine norm_ (a' := ?_) ?_ ?_
          rotate_left
          ·
           show Act.put _ (some 46) _ = _
           simp only [Act.put, List.setIfInBounds_toArray, List.set_cons_zero, List.set_cons_succ, i64_w, i32_w]
           rfl
          refine two_ (i := 7) (j := 9) (Ni := some 50) (Nj := some 12) #[J,J,J,J,J,J,J,J,O,O,O] #[J,J,J,J,J,J,J,O,O,J,O] rfl rfl rfl rfl (two_of HT_.out (by kernel_rfl)) (by decide) (by decide) (fun K hK => ?_) (fun K hK => ?_)
          ·
           skip
           refine goes_ Try.func31 (by kernel_rfl) rfl #[.agg (A44 (rd_T44 l0_1 x8_2) A386_1 c386_1 A386_4 c386_4 A386_8 c386_8 A386_9 c386_9 A386_13 c386_13 A386_14 c386_14 A386_15 c386_15), .slice Ao34 x7_2.length co34, .agg #[.int .i64 a1_0, .int .i64 a1_1, .int .i64 a1_2, .int .i64 a1_3, .int .i64 a1_4, .int .i64 a1_5]] (by rfl) rfl rfl mapA ?_
           with_reducible refine (errataref20_state.calls k2 _ _ _ _ _ _ _ _ _ _ _ _ _ _ _ _ _ _ _ _ _ _ _ _ _ _ _ _ _ _ _ _ x7_2 a1_0 a1_1 a1_2 a1_3 a1_4 a1_5 t392 _ ?side1 ?side2 ?side3 ?side4 ?side5 ?side6 ?side7 ?side8 ?side9 ?side10 ?side11 ?side12 ?side13 ?side14 ?side15 ?side16 A24.out).mono ?_
           (case side1 => exact c_belowA HR386_1.out)
           (case side2 => exact HC386_1.out)
           (case side3 => exact c_belowA HR386_4.out)
           (case side4 => exact HC386_4.out)
           (case side5 => exact c_belowA HR386_8.out)
           (case side6 => exact HC386_8.out)
           (case side7 => exact c_belowA HR386_9.out)
           (case side8 => exact HC386_9.out)
           (case side9 => exact c_belowA HR386_13.out)
           (case side10 => exact HC386_13.out)
           (case side11 => exact c_belowA HR386_14.out)
           (case side12 => exact HC386_14.out)
           (case side13 => exact c_belowA HR386_15.out)
           (case side14 => exact HC386_15.out)
           (case side15 => repeat (first | exact (Kd.R_reads' HO_7.out).2.2 | (with_reducible refine Kd.C_alloc ?_ _) | (with_reducible refine Kd.C_drewN ?_ _) | (with_reducible refine Kd.C_drew ?_)))
           (case side16 => exact (Kd.R_reads' HO_7.out).2.1)
           rintro e w37 ⟨rfl, hb⟩
           refine ⟨_, rfl, ?_⟩
           have n0_ := Aside0.mk (r_belowA HO_7.out hb)
           have n1_ := Aside0.mk (blk_keepA BK382.out hb)
           have n2_ := Aside0.mk (blk_keepA BK383.out hb)
           have n3_ := Aside0.mk (blk_keepA BK387.out hb)
           have n4_ := Aside0.mk (below_stepA hb)
           clear HO_7
           clear BK382
           clear BK383
           clear BK387
           clear HB
           have HO_7 := n0_
           have BK382 := n1_
           have BK383 := n2_
           have BK387 := n3_
           have HB := n4_
           clear n0_ n1_ n2_ n3_ n4_
           (try clear hb)
           (try clear hb2)
           (try clear hk)
           (try clear hi)
           refine hK.out _ _ ⟨(blk_cell BK387.out 0).trans rfl, (blk_cell BK387.out 1).trans rfl, (blk_cell BK387.out 2).trans rfl, (blk_cell BK387.out 3).trans rfl, (blk_cell BK387.out 4).trans rfl, (blk_cell BK387.out 5).trans rfl, (blk_cell BK387.out 6).trans rfl, (blk_cell BK387.out 7).trans rfl, (blk_cell BK387.out 8).trans rfl, (blk_cell BK387.out 9).trans rfl, (blk_cell BK387.out 10).trans rfl, (blk_cell BK387.out 11).trans rfl, (blk_cell BK387.out 12).trans rfl, (blk_cell BK387.out 13).trans rfl, (blk_cell BK387.out 14).trans rfl, (blk_cell BK387.out 15).trans rfl, (blk_cell BK383.out 0).trans rfl, (blk_cell BK383.out 1).trans rfl, (blk_cell BK383.out 2).trans rfl, (blk_cell BK383.out 3).trans rfl, (blk_cell BK383.out 4).trans rfl, (blk_cell BK383.out 5).trans rfl⟩ (fun hHeld => ?_)
           clear hK K
           refine norm_ (a' := ?_) ?_ ?_
           rotate_left
           ·
            show Act.put _ (some 50) _ = _
            simp only [Act.put, List.setIfInBounds_toArray, List.set_cons_zero, List.set_cons_succ, i64_w, i32_w]
            rfl
           refine pureA 8 51 #[J,J,J,J,J,J,J,J,J,O,O] ?_
           refine one_ (i := 9) (N := some 12) #[J,J,J,J,J,J,J,J,J,J,O] rfl rfl (one_of HT_.out (by kernel_rfl)) (by decide) (fun K hK => ?_)
           refine box_step ?hg (N := 12) ?hd (cs := #[.int .i64 0, .int .i64 0, .int .i64 0, .int .i64 0]) (t := 37) ?hr ?_; (case hd => rfl); (case hg => rfl); (case hr => first | (go_simp; done) | (go_simp; rfl))
           intro gb393 hg w38 hbox hb
           have n0_ := Aside0.mk (Kd.R_below (Kd.R_elderB (by (with_reducible repeat (first | apply Kd.R_alloc | apply Kd.R_drewN | apply Kd.R_drew)); exact HO_7.out) gb393 (Nat.le_of_eq hg.symm)) hb)
           have n1_ := Aside0.mk (blk_keepA BK382.out hb)
           have n2_ := Aside0.mk (blk_keepA BK383.out hb)
           have n3_ := Aside0.mk (blk_keepA BK387.out hb)
           have n4_ := Aside0.mk (below_stepA hb)
           have n5_ := Aside0.mk (hbox)
           have n6_ := Aside0.mk ((by rw [hg]; exact below_sizeA : w.heap.size ≤ gb393))
           have n7_ := Aside0.mk ((by rw [hg]; exact below_sizeA : w.heap.size ≤ gb393))
           have n8_ := Aside0.mk ((by rw [hg]; exact Nat.ne_of_lt (blk_ltKA BK382.out) : gb382 ≠ gb393))
           have n9_ := Aside0.mk ((by rw [hg]; exact Nat.ne_of_gt (blk_ltKA BK382.out) : gb393 ≠ gb382))
           have n10_ := Aside0.mk ((by rw [hg]; exact Nat.ne_of_lt (blk_ltKA BK383.out) : gb383 ≠ gb393))
           have n11_ := Aside0.mk ((by rw [hg]; exact Nat.ne_of_gt (blk_ltKA BK383.out) : gb393 ≠ gb383))
           have n12_ := Aside0.mk ((by rw [hg]; exact Nat.ne_of_lt (blk_ltKA BK387.out) : gb387 ≠ gb393))
           have n13_ := Aside0.mk ((by rw [hg]; exact Nat.ne_of_gt (blk_ltKA BK387.out) : gb393 ≠ gb387))
           clear HO_7
           clear BK382
           clear BK383
           clear BK387
           clear HB
           have HO_7 := n0_
           have BK382 := n1_
           have BK383 := n2_
           have BK387 := n3_
           have HB := n4_
           have BK393 := n5_
           have GW393 := n6_
           have GE393 := n7_
           have NB382_393 := n8_
           have NB393_382 := n9_
           have NB383_393 := n10_
           have NB393_383 := n11_
           have NB387_393 := n12_
           have NB393_387 := n13_
           clear n0_ n1_ n2_ n3_ n4_ n5_ n6_ n7_ n8_ n9_ n10_ n11_ n12_ n13_
           clear hb hbox hg
           refine hK.out _ _ ⟨(blk_cell BK387.out 0).trans rfl, (blk_cell BK387.out 1).trans rfl, (blk_cell BK387.out 2).trans rfl, (blk_cell BK387.out 3).trans rfl, (blk_cell BK387.out 4).trans rfl, (blk_cell BK387.out 5).trans rfl, (blk_cell BK387.out 6).trans rfl, (blk_cell BK387.out 7).trans rfl, (blk_cell BK387.out 8).trans rfl, (blk_cell BK387.out 9).trans rfl, (blk_cell BK387.out 10).trans rfl, (blk_cell BK387.out 11).trans rfl, (blk_cell BK387.out 12).trans rfl, (blk_cell BK387.out 13).trans rfl, (blk_cell BK387.out 14).trans rfl, (blk_cell BK387.out 15).trans rfl, (blk_cell BK383.out 0).trans rfl, (blk_cell BK383.out 1).trans rfl, (blk_cell BK383.out 2).trans rfl, (blk_cell BK383.out 3).trans rfl, (blk_cell BK383.out 4).trans rfl, (blk_cell BK383.out 5).trans rfl⟩ (fun hHeld => ?_)
           clear hK K
           refine norm_ (a' := ?_) ?_ ?_
           rotate_left
           ·
            show Act.put _ (some 12) _ = _
            simp only [Act.put, List.setIfInBounds_toArray, List.set_cons_zero, List.set_cons_succ, i64_w, i32_w]
            rfl
           exact norm_ (by simp only [putAll, Act.put, List.setIfInBounds_toArray, List.set_cons_zero, List.set_cons_succ]) (hCont (gb393) _ ⟨hHeld, (by (with_reducible repeat (first | apply Kd.R_alloc | apply Kd.R_drewN | apply Kd.R_drew)); exact Kd.R_mono HO_7.out (fun _ hk => hk.2)), (blk_move BK382.out), (blk_move BK383.out), (blk_move BK387.out), (blk_move BK393.out), GW393.out, GE393.out, NB382_393.out, NB393_382.out, NB383_393.out, NB393_383.out, NB387_393.out, NB393_387.out, belowA⟩)
          ·
           skip
           refine box_step ?hg (N := 12) ?hd (cs := #[.int .i64 0, .int .i64 0, .int .i64 0, .int .i64 0]) (t := 37) ?hr ?_; (case hd => rfl); (case hg => rfl); (case hr => first | (go_simp; done) | (go_simp; rfl))
           intro gb393 hg w37 hbox hb
           have n0_ := Aside0.mk (Kd.R_below (Kd.R_elderB (by (with_reducible repeat (first | apply Kd.R_alloc | apply Kd.R_drewN | apply Kd.R_drew)); exact HO_7.out) gb393 (Nat.le_of_eq hg.symm)) hb)
           have n1_ := Aside0.mk (blk_keepA BK382.out hb)
           have n2_ := Aside0.mk (blk_keepA BK383.out hb)
           have n3_ := Aside0.mk (blk_keepA BK387.out hb)
           have n4_ := Aside0.mk (below_stepA hb)
           have n5_ := Aside0.mk (hbox)
           have n6_ := Aside0.mk ((by rw [hg]; exact below_sizeA : w.heap.size ≤ gb393))
           have n7_ := Aside0.mk ((by rw [hg]; exact below_sizeA : w.heap.size ≤ gb393))
           have n8_ := Aside0.mk ((by rw [hg]; exact Nat.ne_of_lt (blk_ltKA BK382.out) : gb382 ≠ gb393))
           have n9_ := Aside0.mk ((by rw [hg]; exact Nat.ne_of_gt (blk_ltKA BK382.out) : gb393 ≠ gb382))
           have n10_ := Aside0.mk ((by rw [hg]; exact Nat.ne_of_lt (blk_ltKA BK383.out) : gb383 ≠ gb393))
           have n11_ := Aside0.mk ((by rw [hg]; exact Nat.ne_of_gt (blk_ltKA BK383.out) : gb393 ≠ gb383))
           have n12_ := Aside0.mk ((by rw [hg]; exact Nat.ne_of_lt (blk_ltKA BK387.out) : gb387 ≠ gb393))
           have n13_ := Aside0.mk ((by rw [hg]; exact Nat.ne_of_gt (blk_ltKA BK387.out) : gb393 ≠ gb387))
           clear HO_7
           clear BK382
           clear BK383
           clear BK387
           clear HB
           have HO_7 := n0_
           have BK382 := n1_
           have BK383 := n2_
           have BK387 := n3_
           have HB := n4_
           have BK393 := n5_
           have GW393 := n6_
           have GE393 := n7_
           have NB382_393 := n8_
           have NB393_382 := n9_
           have NB383_393 := n10_
           have NB393_383 := n11_
           have NB387_393 := n12_
           have NB393_387 := n13_
           clear n0_ n1_ n2_ n3_ n4_ n5_ n6_ n7_ n8_ n9_ n10_ n11_ n12_ n13_
           clear hb hbox hg
           refine hK.out _ _ ⟨(blk_cell BK387.out 0).trans rfl, (blk_cell BK387.out 1).trans rfl, (blk_cell BK387.out 2).trans rfl, (blk_cell BK387.out 3).trans rfl, (blk_cell BK387.out 4).trans rfl, (blk_cell BK387.out 5).trans rfl, (blk_cell BK387.out 6).trans rfl, (blk_cell BK387.out 7).trans rfl, (blk_cell BK387.out 8).trans rfl, (blk_cell BK387.out 9).trans rfl, (blk_cell BK387.out 10).trans rfl, (blk_cell BK387.out 11).trans rfl, (blk_cell BK387.out 12).trans rfl, (blk_cell BK387.out 13).trans rfl, (blk_cell BK387.out 14).trans rfl, (blk_cell BK387.out 15).trans rfl, (blk_cell BK383.out 0).trans rfl, (blk_cell BK383.out 1).trans rfl, (blk_cell BK383.out 2).trans rfl, (blk_cell BK383.out 3).trans rfl, (blk_cell BK383.out 4).trans rfl, (blk_cell BK383.out 5).trans rfl⟩ (fun hHeld => ?_)
           clear hK K
           refine norm_ (a' := ?_) ?_ ?_
           rotate_left
           ·
            show Act.put _ (some 12) _ = _
            simp only [Act.put, List.setIfInBounds_toArray, List.set_cons_zero, List.set_cons_succ, i64_w, i32_w]
            rfl
           refine one_ (i := 7) (N := some 50) #[J,J,J,J,J,J,J,J,O,J,O] rfl rfl (one_of HT_.out (by kernel_rfl)) (by decide) (fun K hK => ?_)
           refine goes_ Try.func31 (by kernel_rfl) rfl #[.agg (A44 (rd_T44 l0_1 x8_2) A386_1 c386_1 A386_4 c386_4 A386_8 c386_8 A386_9 c386_9 A386_13 c386_13 A386_14 c386_14 A386_15 c386_15), .slice Ao34 x7_2.length co34, .agg #[.int .i64 a1_0, .int .i64 a1_1, .int .i64 a1_2, .int .i64 a1_3, .int .i64 a1_4, .int .i64 a1_5]] (by rfl) rfl rfl mapA ?_
           with_reducible refine (errataref20_state.calls k2 _ _ _ _ _ _ _ _ _ _ _ _ _ _ _ _ _ _ _ _ _ _ _ _ _ _ _ _ _ _ _ _ x7_2 a1_0 a1_1 a1_2 a1_3 a1_4 a1_5 t392 _ ?side1 ?side2 ?side3 ?side4 ?side5 ?side6 ?side7 ?side8 ?side9 ?side10 ?side11 ?side12 ?side13 ?side14 ?side15 ?side16 A24.out).mono ?_
           (case side1 => exact c_belowA HR386_1.out)
           (case side2 => exact HC386_1.out)
           (case side3 => exact c_belowA HR386_4.out)
           (case side4 => exact HC386_4.out)
           (case side5 => exact c_belowA HR386_8.out)
           (case side6 => exact HC386_8.out)
           (case side7 => exact c_belowA HR386_9.out)
           (case side8 => exact HC386_9.out)
           (case side9 => exact c_belowA HR386_13.out)
           (case side10 => exact HC386_13.out)
           (case side11 => exact c_belowA HR386_14.out)
           (case side12 => exact HC386_14.out)
           (case side13 => exact c_belowA HR386_15.out)
           (case side14 => exact HC386_15.out)
           (case side15 => repeat (first | exact (Kd.R_reads' HO_7.out).2.2 | (with_reducible refine Kd.C_alloc ?_ _) | (with_reducible refine Kd.C_drewN ?_ _) | (with_reducible refine Kd.C_drew ?_)))
           (case side16 => exact (Kd.R_reads' HO_7.out).2.1)
           rintro e w38 ⟨rfl, hb⟩
           refine ⟨_, rfl, ?_⟩
           have n0_ := Aside0.mk (r_belowA HO_7.out hb)
           have n1_ := Aside0.mk (blk_keepA BK382.out hb)
           have n2_ := Aside0.mk (blk_keepA BK383.out hb)
           have n3_ := Aside0.mk (blk_keepA BK387.out hb)
           have n4_ := Aside0.mk (blk_keepA BK393.out hb)
           have n5_ := Aside0.mk (below_stepA hb)
           clear HO_7
           clear BK382
           clear BK383
           clear BK387
           clear BK393
           clear HB
           have HO_7 := n0_
           have BK382 := n1_
           have BK383 := n2_
           have BK387 := n3_
           have BK393 := n4_
           have HB := n5_
           clear n0_ n1_ n2_ n3_ n4_ n5_
           (try clear hb)
           (try clear hb2)
           (try clear hk)
           (try clear hi)
           refine hK.out _ _ ⟨(blk_cell BK387.out 0).trans rfl, (blk_cell BK387.out 1).trans rfl, (blk_cell BK387.out 2).trans rfl, (blk_cell BK387.out 3).trans rfl, (blk_cell BK387.out 4).trans rfl, (blk_cell BK387.out 5).trans rfl, (blk_cell BK387.out 6).trans rfl, (blk_cell BK387.out 7).trans rfl, (blk_cell BK387.out 8).trans rfl, (blk_cell BK387.out 9).trans rfl, (blk_cell BK387.out 10).trans rfl, (blk_cell BK387.out 11).trans rfl, (blk_cell BK387.out 12).trans rfl, (blk_cell BK387.out 13).trans rfl, (blk_cell BK387.out 14).trans rfl, (blk_cell BK387.out 15).trans rfl, (blk_cell BK383.out 0).trans rfl, (blk_cell BK383.out 1).trans rfl, (blk_cell BK383.out 2).trans rfl, (blk_cell BK383.out 3).trans rfl, (blk_cell BK383.out 4).trans rfl, (blk_cell BK383.out 5).trans rfl⟩ (fun hHeld => ?_)
           clear hK K
           refine norm_ (a' := ?_) ?_ ?_
           rotate_left
           ·
            show Act.put _ (some 50) _ = _
            simp only [Act.put, List.setIfInBounds_toArray, List.set_cons_zero, List.set_cons_succ, i64_w, i32_w]
            rfl
           refine pureA 8 51 #[J,J,J,J,J,J,J,J,J,J,O] ?_
           exact norm_ (by simp only [putAll, Act.put, List.setIfInBounds_toArray, List.set_cons_zero, List.set_cons_succ]) (hCont (gb393) _ ⟨hHeld, (by (with_reducible repeat (first | apply Kd.R_alloc | apply Kd.R_drewN | apply Kd.R_drew)); exact Kd.R_mono HO_7.out (fun _ hk => hk.2)), (blk_move BK382.out), (blk_move BK383.out), (blk_move BK387.out), (blk_move BK393.out), GW393.out, GE393.out, NB382_393.out, NB393_382.out, NB383_393.out, NB393_383.out, NB387_393.out, NB393_387.out, belowA⟩)
         ·
          skip
          refine box_step ?hg (N := 12) ?hd (cs := #[.int .i64 0, .int .i64 0, .int .i64 0, .int .i64 0]) (t := 37) ?hr ?_; (case hd => rfl); (case hg => rfl); (case hr => first | (go_simp; done) | (go_simp; rfl))
          intro gb393 hg w36 hbox hb
          have n0_ := Aside0.mk (Kd.R_below (Kd.R_elderB (by (with_reducible repeat (first | apply Kd.R_alloc | apply Kd.R_drewN | apply Kd.R_drew)); exact HO_7.out) gb393 (Nat.le_of_eq hg.symm)) hb)
          have n1_ := Aside0.mk (blk_keepA BK382.out hb)
          have n2_ := Aside0.mk (blk_keepA BK383.out hb)
          have n3_ := Aside0.mk (blk_keepA BK387.out hb)
          have n4_ := Aside0.mk (below_stepA hb)
          have n5_ := Aside0.mk (hbox)
          have n6_ := Aside0.mk ((by rw [hg]; exact below_sizeA : w.heap.size ≤ gb393))
          have n7_ := Aside0.mk ((by rw [hg]; exact below_sizeA : w.heap.size ≤ gb393))
          have n8_ := Aside0.mk ((by rw [hg]; exact Nat.ne_of_lt (blk_ltKA BK382.out) : gb382 ≠ gb393))
          have n9_ := Aside0.mk ((by rw [hg]; exact Nat.ne_of_gt (blk_ltKA BK382.out) : gb393 ≠ gb382))
          have n10_ := Aside0.mk ((by rw [hg]; exact Nat.ne_of_lt (blk_ltKA BK383.out) : gb383 ≠ gb393))
          have n11_ := Aside0.mk ((by rw [hg]; exact Nat.ne_of_gt (blk_ltKA BK383.out) : gb393 ≠ gb383))
          have n12_ := Aside0.mk ((by rw [hg]; exact Nat.ne_of_lt (blk_ltKA BK387.out) : gb387 ≠ gb393))
          have n13_ := Aside0.mk ((by rw [hg]; exact Nat.ne_of_gt (blk_ltKA BK387.out) : gb393 ≠ gb387))
          clear HO_7
          clear BK382
          clear BK383
          clear BK387
          clear HB
          have HO_7 := n0_
          have BK382 := n1_
          have BK383 := n2_
          have BK387 := n3_
          have HB := n4_
          have BK393 := n5_
          have GW393 := n6_
          have GE393 := n7_
          have NB382_393 := n8_
          have NB393_382 := n9_
          have NB383_393 := n10_
          have NB393_383 := n11_
          have NB387_393 := n12_
          have NB393_387 := n13_
          clear n0_ n1_ n2_ n3_ n4_ n5_ n6_ n7_ n8_ n9_ n10_ n11_ n12_ n13_
          clear hb hbox hg
          refine hK.out _ _ ⟨(blk_cell BK387.out 0).trans rfl, (blk_cell BK387.out 1).trans rfl, (blk_cell BK387.out 2).trans rfl, (blk_cell BK387.out 3).trans rfl, (blk_cell BK387.out 4).trans rfl, (blk_cell BK387.out 5).trans rfl, (blk_cell BK387.out 6).trans rfl, (blk_cell BK387.out 7).trans rfl, (blk_cell BK387.out 8).trans rfl, (blk_cell BK387.out 9).trans rfl, (blk_cell BK387.out 10).trans rfl, (blk_cell BK387.out 11).trans rfl, (blk_cell BK387.out 12).trans rfl, (blk_cell BK387.out 13).trans rfl, (blk_cell BK387.out 14).trans rfl, (blk_cell BK387.out 15).trans rfl, (blk_cell BK383.out 0).trans rfl, (blk_cell BK383.out 1).trans rfl, (blk_cell BK383.out 2).trans rfl, (blk_cell BK383.out 3).trans rfl, (blk_cell BK383.out 4).trans rfl, (blk_cell BK383.out 5).trans rfl⟩ (fun hHeld => ?_)
          clear hK K
          refine norm_ (a' := ?_) ?_ ?_
          rotate_left
          ·
           show Act.put _ (some 12) _ = _
           simp only [Act.put, List.setIfInBounds_toArray, List.set_cons_zero, List.set_cons_succ, i64_w, i32_w]
           rfl
          refine one_ (i := 3) (N := some 46) #[J,J,J,J,J,J,J,O,O,J,O] rfl rfl (one_of HT_.out (by kernel_rfl)) (by decide) (fun K hK => ?_)
          refine goes_ Try.func30 (by kernel_rfl) rfl #[.agg (A44 (rd_T44 l0_1 x8_2) A386_1 c386_1 A386_4 c386_4 A386_8 c386_8 A386_9 c386_9 A386_13 c386_13 A386_14 c386_14 A386_15 c386_15), .slice Ao34 x7_2.length co34, .agg #[.int .i64 a1_0, .int .i64 a1_1, .int .i64 a1_2, .int .i64 a1_3, .int .i64 a1_4, .int .i64 a1_5]] (by rfl) rfl rfl mapA ?_
          with_reducible refine (errataref20_rate.calls k2 _ _ _ _ _ _ _ _ _ _ _ _ _ _ _ _ _ _ _ _ _ _ _ _ _ _ _ _ _ _ _ _ x7_2 a1_0 a1_1 a1_2 a1_3 a1_4 a1_5 t391 _ ?side1 ?side2 ?side3 ?side4 ?side5 ?side6 ?side7 ?side8 ?side9 ?side10 ?side11 ?side12 ?side13 ?side14 ?side15 ?side16 A23.out).mono ?_
          (case side1 => exact c_belowA HR386_1.out)
          (case side2 => exact HC386_1.out)
          (case side3 => exact c_belowA HR386_4.out)
          (case side4 => exact HC386_4.out)
          (case side5 => exact c_belowA HR386_8.out)
          (case side6 => exact HC386_8.out)
          (case side7 => exact c_belowA HR386_9.out)
          (case side8 => exact HC386_9.out)
          (case side9 => exact c_belowA HR386_13.out)
          (case side10 => exact HC386_13.out)
          (case side11 => exact c_belowA HR386_14.out)
          (case side12 => exact HC386_14.out)
          (case side13 => exact c_belowA HR386_15.out)
          (case side14 => exact HC386_15.out)
          (case side15 => repeat (first | exact (Kd.R_reads' HO_7.out).2.2 | (with_reducible refine Kd.C_alloc ?_ _) | (with_reducible refine Kd.C_drewN ?_ _) | (with_reducible refine Kd.C_drew ?_)))
          (case side16 => exact (Kd.R_reads' HO_7.out).2.1)
          rintro e w37 ⟨rfl, hb⟩
          refine ⟨_, rfl, ?_⟩
          have n0_ := Aside0.mk (r_belowA HO_7.out hb)
          have n1_ := Aside0.mk (blk_keepA BK382.out hb)
          have n2_ := Aside0.mk (blk_keepA BK383.out hb)
          have n3_ := Aside0.mk (blk_keepA BK387.out hb)
          have n4_ := Aside0.mk (blk_keepA BK393.out hb)
          have n5_ := Aside0.mk (below_stepA hb)
          clear HO_7
          clear BK382
          clear BK383
          clear BK387
          clear BK393
          clear HB
          have HO_7 := n0_
          have BK382 := n1_
          have BK383 := n2_
          have BK387 := n3_
          have BK393 := n4_
          have HB := n5_
          clear n0_ n1_ n2_ n3_ n4_ n5_
          (try clear hb)
          (try clear hb2)
          (try clear hk)
          (try clear hi)
          refine hK.out _ _ ⟨(blk_cell BK387.out 0).trans rfl, (blk_cell BK387.out 1).trans rfl, (blk_cell BK387.out 2).trans rfl, (blk_cell BK387.out 3).trans rfl, (blk_cell BK387.out 4).trans rfl, (blk_cell BK387.out 5).trans rfl, (blk_cell BK387.out 6).trans rfl, (blk_cell BK387.out 7).trans rfl, (blk_cell BK387.out 8).trans rfl, (blk_cell BK387.out 9).trans rfl, (blk_cell BK387.out 10).trans rfl, (blk_cell BK387.out 11).trans rfl, (blk_cell BK387.out 12).trans rfl, (blk_cell BK387.out 13).trans rfl, (blk_cell BK387.out 14).trans rfl, (blk_cell BK387.out 15).trans rfl, (blk_cell BK383.out 0).trans rfl, (blk_cell BK383.out 1).trans rfl, (blk_cell BK383.out 2).trans rfl, (blk_cell BK383.out 3).trans rfl, (blk_cell BK383.out 4).trans rfl, (blk_cell BK383.out 5).trans rfl⟩ (fun hHeld => ?_)
          clear hK K
          refine norm_ (a' := ?_) ?_ ?_
          rotate_left
          ·
           show Act.put _ (some 46) _ = _
           simp only [Act.put, List.setIfInBounds_toArray, List.set_cons_zero, List.set_cons_succ, i64_w, i32_w]
           rfl
          refine one_ (i := 7) (N := some 50) #[J,J,J,J,J,J,J,J,O,J,O] rfl rfl (one_of HT_.out (by kernel_rfl)) (by decide) (fun K hK => ?_)
          refine goes_ Try.func31 (by kernel_rfl) rfl #[.agg (A44 (rd_T44 l0_1 x8_2) A386_1 c386_1 A386_4 c386_4 A386_8 c386_8 A386_9 c386_9 A386_13 c386_13 A386_14 c386_14 A386_15 c386_15), .slice Ao34 x7_2.length co34, .agg #[.int .i64 a1_0, .int .i64 a1_1, .int .i64 a1_2, .int .i64 a1_3, .int .i64 a1_4, .int .i64 a1_5]] (by rfl) rfl rfl mapA ?_
          with_reducible refine (errataref20_state.calls k2 _ _ _ _ _ _ _ _ _ _ _ _ _ _ _ _ _ _ _ _ _ _ _ _ _ _ _ _ _ _ _ _ x7_2 a1_0 a1_1 a1_2 a1_3 a1_4 a1_5 t392 _ ?side1 ?side2 ?side3 ?side4 ?side5 ?side6 ?side7 ?side8 ?side9 ?side10 ?side11 ?side12 ?side13 ?side14 ?side15 ?side16 A24.out).mono ?_
          (case side1 => exact c_belowA HR386_1.out)
          (case side2 => exact HC386_1.out)
          (case side3 => exact c_belowA HR386_4.out)
          (case side4 => exact HC386_4.out)
          (case side5 => exact c_belowA HR386_8.out)
          (case side6 => exact HC386_8.out)
          (case side7 => exact c_belowA HR386_9.out)
          (case side8 => exact HC386_9.out)
          (case side9 => exact c_belowA HR386_13.out)
          (case side10 => exact HC386_13.out)
          (case side11 => exact c_belowA HR386_14.out)
          (case side12 => exact HC386_14.out)
          (case side13 => exact c_belowA HR386_15.out)
          (case side14 => exact HC386_15.out)
          (case side15 => repeat (first | exact (Kd.R_reads' HO_7.out).2.2 | (with_reducible refine Kd.C_alloc ?_ _) | (with_reducible refine Kd.C_drewN ?_ _) | (with_reducible refine Kd.C_drew ?_)))
          (case side16 => exact (Kd.R_reads' HO_7.out).2.1)
          rintro e w38 ⟨rfl, hb⟩
          refine ⟨_, rfl, ?_⟩
          have n0_ := Aside0.mk (r_belowA HO_7.out hb)
          have n1_ := Aside0.mk (blk_keepA BK382.out hb)
          have n2_ := Aside0.mk (blk_keepA BK383.out hb)
          have n3_ := Aside0.mk (blk_keepA BK387.out hb)
          have n4_ := Aside0.mk (blk_keepA BK393.out hb)
          have n5_ := Aside0.mk (below_stepA hb)
          clear HO_7
          clear BK382
          clear BK383
          clear BK387
          clear BK393
          clear HB
          have HO_7 := n0_
          have BK382 := n1_
          have BK383 := n2_
          have BK387 := n3_
          have BK393 := n4_
          have HB := n5_
          clear n0_ n1_ n2_ n3_ n4_ n5_
          (try clear hb)
          (try clear hb2)
          (try clear hk)
          (try clear hi)
          refine hK.out _ _ ⟨(blk_cell BK387.out 0).trans rfl, (blk_cell BK387.out 1).trans rfl, (blk_cell BK387.out 2).trans rfl, (blk_cell BK387.out 3).trans rfl, (blk_cell BK387.out 4).trans rfl, (blk_cell BK387.out 5).trans rfl, (blk_cell BK387.out 6).trans rfl, (blk_cell BK387.out 7).trans rfl, (blk_cell BK387.out 8).trans rfl, (blk_cell BK387.out 9).trans rfl, (blk_cell BK387.out 10).trans rfl, (blk_cell BK387.out 11).trans rfl, (blk_cell BK387.out 12).trans rfl, (blk_cell BK387.out 13).trans rfl, (blk_cell BK387.out 14).trans rfl, (blk_cell BK387.out 15).trans rfl, (blk_cell BK383.out 0).trans rfl, (blk_cell BK383.out 1).trans rfl, (blk_cell BK383.out 2).trans rfl, (blk_cell BK383.out 3).trans rfl, (blk_cell BK383.out 4).trans rfl, (blk_cell BK383.out 5).trans rfl⟩ (fun hHeld => ?_)
          clear hK K
          refine norm_ (a' := ?_) ?_ ?_
          rotate_left
          ·
           show Act.put _ (some 50) _ = _
           simp only [Act.put, List.setIfInBounds_toArray, List.set_cons_zero, List.set_cons_succ, i64_w, i32_w]
           rfl
          refine pureA 8 51 #[J,J,J,J,J,J,J,J,J,J,O] ?_
          exact norm_ (by simp only [putAll, Act.put, List.setIfInBounds_toArray, List.set_cons_zero, List.set_cons_succ]) (hCont (gb393) _ ⟨hHeld, (by (with_reducible repeat (first | apply Kd.R_alloc | apply Kd.R_drewN | apply Kd.R_drew)); exact Kd.R_mono HO_7.out (fun _ hk => hk.2)), (blk_move BK382.out), (blk_move BK383.out), (blk_move BK387.out), (blk_move BK393.out), GW393.out, GE393.out, NB382_393.out, NB393_382.out, NB383_393.out, NB393_383.out, NB387_393.out, NB393_387.out, belowA⟩)
        rintro gb393 w39 ⟨hS_, h0_, h1_, h2_, h3_, h4_, h5_, h6_, h7_, h8_, h9_, h10_, h11_, h12_, h13_⟩
        have n0_ : Aside0 (Kd.R k37 37 w39 w.heap.size (fun k_ => k_ ≠ gb393) (.slice Ao34 x7_2.length co34) x7_2) := ⟨h0_⟩
        have n1_ : Aside0 (w39.heap[gb382]? = some (.cells #[.slice A0_0 l0_0.length c0_0, .slice (some ad386) l0_1.length c0_1] 25 (0, 0))) := ⟨h1_⟩
        have n2_ : Aside0 (w39.heap[gb383]? = some (.cells #[.int .i64 a1_0, .int .i64 a1_1, .int .i64 a1_2, .int .i64 a1_3, .int .i64 a1_4, .int .i64 a1_5] 27 (0, 0))) := ⟨h2_⟩
        have n3_ : Aside0 (w39.heap[gb387]? = some (.cells (A44 (rd_T44 l0_1 x8_2) A386_1 c386_1 A386_4 c386_4 A386_8 c386_8 A386_9 c386_9 A386_13 c386_13 A386_14 c386_14 A386_15 c386_15) 44 (0, 0))) := ⟨h3_⟩
        have n4_ : Aside0 (w39.heap[gb393]? = some (.cells #[.int .i64 0, .int .i64 0, .int .i64 0, .int .i64 0] 37 (0, 0))) := ⟨h4_⟩
        have n5_ : Aside0 (w.heap.size ≤ gb393) := ⟨h5_⟩
        have n6_ : Aside0 (w.heap.size ≤ gb393) := ⟨h6_⟩
        have n7_ : Aside0 (gb382 ≠ gb393) := ⟨h7_⟩
        have n8_ : Aside0 (gb393 ≠ gb382) := ⟨h8_⟩
        have n9_ : Aside0 (gb383 ≠ gb393) := ⟨h9_⟩
        have n10_ : Aside0 (gb393 ≠ gb383) := ⟨h10_⟩
        have n11_ : Aside0 (gb387 ≠ gb393) := ⟨h11_⟩
        have n12_ : Aside0 (gb393 ≠ gb387) := ⟨h12_⟩
        have n13_ : Aside0 (Below w.heap.size w w39) := ⟨h13_⟩
        clear HO_7
        clear BK382
        clear BK383
        clear BK387
        clear HB
        clear h0_ h1_ h2_ h3_ h4_ h5_ h6_ h7_ h8_ h9_ h10_ h11_ h12_ h13_
        have HO_7 := n0_
        have BK382 := n1_
        have BK383 := n2_
        have BK387 := n3_
        have BK393 := n4_
        have GW393 := n5_
        have GE393 := n6_
        have NB382_393 := n7_
        have NB393_382 := n8_
        have NB383_393 := n9_
        have NB393_383 := n10_
        have NB387_393 := n11_
        have NB393_387 := n12_
        have HB := n13_
        clear n0_ n1_ n2_ n3_ n4_ n5_ n6_ n7_ n8_ n9_ n10_ n11_ n12_ n13_
        have hHeld : w39.cell? ⟨gb387, 0, none⟩ = some (.int .i64 ((rd_T44 l0_1 x8_2).f0)) ∧ w39.cell? ⟨gb387, 1, none⟩ = some (.slice A386_1 ((rd_T44 l0_1 x8_2).f1).length c386_1) ∧ w39.cell? ⟨gb387, 2, none⟩ = some (.string ((rd_T44 l0_1 x8_2).f2)) ∧ w39.cell? ⟨gb387, 3, none⟩ = some (.int .i64 ((rd_T44 l0_1 x8_2).f3)) ∧ w39.cell? ⟨gb387, 4, none⟩ = some (.slice A386_4 ((rd_T44 l0_1 x8_2).f4).length c386_4) ∧ w39.cell? ⟨gb387, 5, none⟩ = some (.int .i64 ((rd_T44 l0_1 x8_2).f5)) ∧ w39.cell? ⟨gb387, 6, none⟩ = some (.int .i64 ((rd_T44 l0_1 x8_2).f6)) ∧ w39.cell? ⟨gb387, 7, none⟩ = some (.int .i64 ((rd_T44 l0_1 x8_2).f7)) ∧ w39.cell? ⟨gb387, 8, none⟩ = some (.slice A386_8 ((rd_T44 l0_1 x8_2).f8).length c386_8) ∧ w39.cell? ⟨gb387, 9, none⟩ = some (.slice A386_9 ((rd_T44 l0_1 x8_2).f9).length c386_9) ∧ w39.cell? ⟨gb387, 10, none⟩ = some (.int .i64 ((rd_T44 l0_1 x8_2).f10)) ∧ w39.cell? ⟨gb387, 11, none⟩ = some (.int .i64 ((rd_T44 l0_1 x8_2).f11)) ∧ w39.cell? ⟨gb387, 12, none⟩ = some (.int .i64 ((rd_T44 l0_1 x8_2).f12)) ∧ w39.cell? ⟨gb387, 13, none⟩ = some (.slice A386_13 ((rd_T44 l0_1 x8_2).f13).length c386_13) ∧ w39.cell? ⟨gb387, 14, none⟩ = some (.slice A386_14 ((rd_T44 l0_1 x8_2).f14).length c386_14) ∧ w39.cell? ⟨gb387, 15, none⟩ = some (.slice A386_15 ((rd_T44 l0_1 x8_2).f15).length c386_15) ∧ w39.cell? ⟨gb383, 0, none⟩ = some (.int .i64 a1_0) ∧ w39.cell? ⟨gb383, 1, none⟩ = some (.int .i64 a1_1) ∧ w39.cell? ⟨gb383, 2, none⟩ = some (.int .i64 a1_2) ∧ w39.cell? ⟨gb383, 3, none⟩ = some (.int .i64 a1_3) ∧ w39.cell? ⟨gb383, 4, none⟩ = some (.int .i64 a1_4) ∧ w39.cell? ⟨gb383, 5, none⟩ = some (.int .i64 a1_5) := hS_
        refine norm_ (a' := ?_) ?_ ?_
        rotate_left
        ·
         simp only [putAll, Act.put, List.setIfInBounds_toArray, List.set_cons_zero, List.set_cons_succ]
         rfl
        refine one_ (i := 10) (N := none) #[J,J,J,J,J,J,J,J,J,J,J] rfl rfl (one_of HT_.out (by kernel_rfl)) (by decide) (fun K hK => ?_)
        have hs40 : w39.cell? ⟨gb393, 0, none⟩ = some (.int .i64 0) := (blk_cell BK393.out 0).trans rfl
        have hfs40 := blk_frozen BK393.out 0
        have hns40_0 := NB382_393.out
        have hns40_1 := NB383_393.out
        have hns40_2 := NB387_393.out
        have hms40_0 := NB393_382.out
        have hms40_1 := NB393_383.out
        have hms40_2 := NB393_387.out
        have hs41 : w39.cell? ⟨gb393, 1, none⟩ = some (.int .i64 0) := (blk_cell BK393.out 1).trans rfl
        have hfs41 := blk_frozen BK393.out 1
        have hns41_0 := NB382_393.out
        have hns41_1 := NB383_393.out
        have hns41_2 := NB387_393.out
        have hms41_0 := NB393_382.out
        have hms41_1 := NB393_383.out
        have hms41_2 := NB393_387.out
        have hs42 : w39.cell? ⟨gb393, 2, none⟩ = some (.int .i64 0) := (blk_cell BK393.out 2).trans rfl
        have hfs42 := blk_frozen BK393.out 2
        have hns42_0 := NB382_393.out
        have hns42_1 := NB383_393.out
        have hns42_2 := NB387_393.out
        have hms42_0 := NB393_382.out
        have hms42_1 := NB393_383.out
        have hms42_2 := NB393_387.out
        have hs43 : w39.cell? ⟨gb393, 3, none⟩ = some (.int .i64 0) := (blk_cell BK393.out 3).trans rfl
        have hfs43 := blk_frozen BK393.out 3
        have hns43_0 := NB382_393.out
        have hns43_1 := NB383_393.out
        have hns43_2 := NB387_393.out
        have hms43_0 := NB393_382.out
        have hms43_1 := NB393_383.out
        have hms43_2 := NB393_387.out
        refine skip_ (w1 := ?_) (by rfl) rfl ?_ ?_
        rotate_left
        ·
         go_simp
         rfl
        refine hK.out _ _ ⟨((cell_far (p := ⟨gb393, _, none⟩) NB387_393.out _).trans (((cell_far (p := ⟨gb393, _, none⟩) NB387_393.out _).trans (((cell_far (p := ⟨gb393, _, none⟩) NB387_393.out _).trans (((cell_far (p := ⟨gb393, _, none⟩) NB387_393.out _).trans (hHeld.1)))))))), ((cell_far (p := ⟨gb393, _, none⟩) NB387_393.out _).trans (((cell_far (p := ⟨gb393, _, none⟩) NB387_393.out _).trans (((cell_far (p := ⟨gb393, _, none⟩) NB387_393.out _).trans (((cell_far (p := ⟨gb393, _, none⟩) NB387_393.out _).trans (hHeld.2.1)))))))), ((cell_far (p := ⟨gb393, _, none⟩) NB387_393.out _).trans (((cell_far (p := ⟨gb393, _, none⟩) NB387_393.out _).trans (((cell_far (p := ⟨gb393, _, none⟩) NB387_393.out _).trans (((cell_far (p := ⟨gb393, _, none⟩) NB387_393.out _).trans (hHeld.2.2.1)))))))), ((cell_far (p := ⟨gb393, _, none⟩) NB387_393.out _).trans (((cell_far (p := ⟨gb393, _, none⟩) NB387_393.out _).trans (((cell_far (p := ⟨gb393, _, none⟩) NB387_393.out _).trans (((cell_far (p := ⟨gb393, _, none⟩) NB387_393.out _).trans (hHeld.2.2.2.1)))))))), ((cell_far (p := ⟨gb393, _, none⟩) NB387_393.out _).trans (((cell_far (p := ⟨gb393, _, none⟩) NB387_393.out _).trans (((cell_far (p := ⟨gb393, _, none⟩) NB387_393.out _).trans (((cell_far (p := ⟨gb393, _, none⟩) NB387_393.out _).trans (hHeld.2.2.2.2.1)))))))), ((cell_far (p := ⟨gb393, _, none⟩) NB387_393.out _).trans (((cell_far (p := ⟨gb393, _, none⟩) NB387_393.out _).trans (((cell_far (p := ⟨gb393, _, none⟩) NB387_393.out _).trans (((cell_far (p := ⟨gb393, _, none⟩) NB387_393.out _).trans (hHeld.2.2.2.2.2.1)))))))), ((cell_far (p := ⟨gb393, _, none⟩) NB387_393.out _).trans (((cell_far (p := ⟨gb393, _, none⟩) NB387_393.out _).trans (((cell_far (p := ⟨gb393, _, none⟩) NB387_393.out _).trans (((cell_far (p := ⟨gb393, _, none⟩) NB387_393.out _).trans (hHeld.2.2.2.2.2.2.1)))))))), ((cell_far (p := ⟨gb393, _, none⟩) NB387_393.out _).trans (((cell_far (p := ⟨gb393, _, none⟩) NB387_393.out _).trans (((cell_far (p := ⟨gb393, _, none⟩) NB387_393.out _).trans (((cell_far (p := ⟨gb393, _, none⟩) NB387_393.out _).trans (hHeld.2.2.2.2.2.2.2.1)))))))), ((cell_far (p := ⟨gb393, _, none⟩) NB387_393.out _).trans (((cell_far (p := ⟨gb393, _, none⟩) NB387_393.out _).trans (((cell_far (p := ⟨gb393, _, none⟩) NB387_393.out _).trans (((cell_far (p := ⟨gb393, _, none⟩) NB387_393.out _).trans (hHeld.2.2.2.2.2.2.2.2.1)))))))), ((cell_far (p := ⟨gb393, _, none⟩) NB387_393.out _).trans (((cell_far (p := ⟨gb393, _, none⟩) NB387_393.out _).trans (((cell_far (p := ⟨gb393, _, none⟩) NB387_393.out _).trans (((cell_far (p := ⟨gb393, _, none⟩) NB387_393.out _).trans (hHeld.2.2.2.2.2.2.2.2.2.1)))))))), ((cell_far (p := ⟨gb393, _, none⟩) NB387_393.out _).trans (((cell_far (p := ⟨gb393, _, none⟩) NB387_393.out _).trans (((cell_far (p := ⟨gb393, _, none⟩) NB387_393.out _).trans (((cell_far (p := ⟨gb393, _, none⟩) NB387_393.out _).trans (hHeld.2.2.2.2.2.2.2.2.2.2.1)))))))), ((cell_far (p := ⟨gb393, _, none⟩) NB387_393.out _).trans (((cell_far (p := ⟨gb393, _, none⟩) NB387_393.out _).trans (((cell_far (p := ⟨gb393, _, none⟩) NB387_393.out _).trans (((cell_far (p := ⟨gb393, _, none⟩) NB387_393.out _).trans (hHeld.2.2.2.2.2.2.2.2.2.2.2.1)))))))), ((cell_far (p := ⟨gb393, _, none⟩) NB387_393.out _).trans (((cell_far (p := ⟨gb393, _, none⟩) NB387_393.out _).trans (((cell_far (p := ⟨gb393, _, none⟩) NB387_393.out _).trans (((cell_far (p := ⟨gb393, _, none⟩) NB387_393.out _).trans (hHeld.2.2.2.2.2.2.2.2.2.2.2.2.1)))))))), ((cell_far (p := ⟨gb393, _, none⟩) NB387_393.out _).trans (((cell_far (p := ⟨gb393, _, none⟩) NB387_393.out _).trans (((cell_far (p := ⟨gb393, _, none⟩) NB387_393.out _).trans (((cell_far (p := ⟨gb393, _, none⟩) NB387_393.out _).trans (hHeld.2.2.2.2.2.2.2.2.2.2.2.2.2.1)))))))), ((cell_far (p := ⟨gb393, _, none⟩) NB387_393.out _).trans (((cell_far (p := ⟨gb393, _, none⟩) NB387_393.out _).trans (((cell_far (p := ⟨gb393, _, none⟩) NB387_393.out _).trans (((cell_far (p := ⟨gb393, _, none⟩) NB387_393.out _).trans (hHeld.2.2.2.2.2.2.2.2.2.2.2.2.2.2.1)))))))), ((cell_far (p := ⟨gb393, _, none⟩) NB387_393.out _).trans (((cell_far (p := ⟨gb393, _, none⟩) NB387_393.out _).trans (((cell_far (p := ⟨gb393, _, none⟩) NB387_393.out _).trans (((cell_far (p := ⟨gb393, _, none⟩) NB387_393.out _).trans (hHeld.2.2.2.2.2.2.2.2.2.2.2.2.2.2.2.1)))))))), ((cell_far (p := ⟨gb393, _, none⟩) NB383_393.out _).trans (((cell_far (p := ⟨gb393, _, none⟩) NB383_393.out _).trans (((cell_far (p := ⟨gb393, _, none⟩) NB383_393.out _).trans (((cell_far (p := ⟨gb393, _, none⟩) NB383_393.out _).trans (hHeld.2.2.2.2.2.2.2.2.2.2.2.2.2.2.2.2.1)))))))), ((cell_far (p := ⟨gb393, _, none⟩) NB383_393.out _).trans (((cell_far (p := ⟨gb393, _, none⟩) NB383_393.out _).trans (((cell_far (p := ⟨gb393, _, none⟩) NB383_393.out _).trans (((cell_far (p := ⟨gb393, _, none⟩) NB383_393.out _).trans (hHeld.2.2.2.2.2.2.2.2.2.2.2.2.2.2.2.2.2.1)))))))), ((cell_far (p := ⟨gb393, _, none⟩) NB383_393.out _).trans (((cell_far (p := ⟨gb393, _, none⟩) NB383_393.out _).trans (((cell_far (p := ⟨gb393, _, none⟩) NB383_393.out _).trans (((cell_far (p := ⟨gb393, _, none⟩) NB383_393.out _).trans (hHeld.2.2.2.2.2.2.2.2.2.2.2.2.2.2.2.2.2.2.1)))))))), ((cell_far (p := ⟨gb393, _, none⟩) NB383_393.out _).trans (((cell_far (p := ⟨gb393, _, none⟩) NB383_393.out _).trans (((cell_far (p := ⟨gb393, _, none⟩) NB383_393.out _).trans (((cell_far (p := ⟨gb393, _, none⟩) NB383_393.out _).trans (hHeld.2.2.2.2.2.2.2.2.2.2.2.2.2.2.2.2.2.2.2.1)))))))), ((cell_far (p := ⟨gb393, _, none⟩) NB383_393.out _).trans (((cell_far (p := ⟨gb393, _, none⟩) NB383_393.out _).trans (((cell_far (p := ⟨gb393, _, none⟩) NB383_393.out _).trans (((cell_far (p := ⟨gb393, _, none⟩) NB383_393.out _).trans (hHeld.2.2.2.2.2.2.2.2.2.2.2.2.2.2.2.2.2.2.2.2.1)))))))), ((cell_far (p := ⟨gb393, _, none⟩) NB383_393.out _).trans (((cell_far (p := ⟨gb393, _, none⟩) NB383_393.out _).trans (((cell_far (p := ⟨gb393, _, none⟩) NB383_393.out _).trans (((cell_far (p := ⟨gb393, _, none⟩) NB383_393.out _).trans (hHeld.2.2.2.2.2.2.2.2.2.2.2.2.2.2.2.2.2.2.2.2.2))))))))⟩ (fun hHeld => ?_)
        clear hK K
        refine done_ (done_of HT_.out (by kernel_rfl)) ?_
        try go_wp2
        go_loopg [13] k2 (fun kq v13 w' => ∃ (x13_3 : Int) (x394000_3 : Int) (x394001_3 : Int), v13 = .int .i64 x13_3 ∧ Aside0 (errataref20_Analyze.l1 kq x7_2 x8_2 t389 t390 x13_3 l0_0 l0_1 a1_0 a1_1 a1_2 a1_3 a1_4 a1_5 ((rd_T44 l0_1 x8_2).f0) ((rd_T44 l0_1 x8_2).f1) ((rd_T44 l0_1 x8_2).f2) ((rd_T44 l0_1 x8_2).f3) ((rd_T44 l0_1 x8_2).f4) ((rd_T44 l0_1 x8_2).f5) ((rd_T44 l0_1 x8_2).f6) ((rd_T44 l0_1 x8_2).f7) ((rd_T44 l0_1 x8_2).f8) ((rd_T44 l0_1 x8_2).f9) ((rd_T44 l0_1 x8_2).f10) ((rd_T44 l0_1 x8_2).f11) ((rd_T44 l0_1 x8_2).f12) ((rd_T44 l0_1 x8_2).f13) ((rd_T44 l0_1 x8_2).f14) ((rd_T44 l0_1 x8_2).f15) x394000_3 x394001_3 t391 t392 = some (r1, r2, r3)) ∧ Aside0 (kq ≤ k2) ∧ Aside0 (Kd.R k37 37 w' w.heap.size (fun k_ => k_ ≠ gb393) (.slice Ao34 x7_2.length co34) x7_2) ∧ Aside0 (w'.heap[gb382]? = some (.cells #[(.slice A0_0 l0_0.length c0_0), (.slice (some ad386) l0_1.length c0_1)] 25 (0, 0))) ∧ Aside0 (w'.heap[gb383]? = some (.cells #[.int .i64 a1_0, .int .i64 a1_1, .int .i64 a1_2, .int .i64 a1_3, .int .i64 a1_4, .int .i64 a1_5] 27 (0, 0))) ∧ Aside0 (w'.heap[gb387]? = some (.cells #[.int .i64 ((rd_T44 l0_1 x8_2).f0), (.slice A386_1 ((rd_T44 l0_1 x8_2).f1).length c386_1), .string ((rd_T44 l0_1 x8_2).f2), .int .i64 ((rd_T44 l0_1 x8_2).f3), (.slice A386_4 ((rd_T44 l0_1 x8_2).f4).length c386_4), .int .i64 ((rd_T44 l0_1 x8_2).f5), .int .i64 ((rd_T44 l0_1 x8_2).f6), .int .i64 ((rd_T44 l0_1 x8_2).f7), (.slice A386_8 ((rd_T44 l0_1 x8_2).f8).length c386_8), (.slice A386_9 ((rd_T44 l0_1 x8_2).f9).length c386_9), .int .i64 ((rd_T44 l0_1 x8_2).f10), .int .i64 ((rd_T44 l0_1 x8_2).f11), .int .i64 ((rd_T44 l0_1 x8_2).f12), (.slice A386_13 ((rd_T44 l0_1 x8_2).f13).length c386_13), (.slice A386_14 ((rd_T44 l0_1 x8_2).f14).length c386_14), (.slice A386_15 ((rd_T44 l0_1 x8_2).f15).length c386_15)] 44 (0, 0))) ∧ Aside0 (w'.heap[gb393]? = some (.cells #[.int .i64 x394000_3, .int .i64 x394001_3, .int .i64 t391, .int .i64 t392] 37 (0, 0))) ∧ Aside0 (Below w.heap.size w w'))
        case atStart => exact ⟨(0), (0), (0), (by first | rfl | (simp; done) | (simp [*]; done)), H', ⟨Nat.le_refl _⟩, ⟨by (with_reducible repeat (first | apply Kd.R_alloc | apply Kd.R_drewN | apply Kd.R_drew)); exact Kd.R_mono (Kd.R_far (p := ⟨gb393, 3, none⟩) (Kd.R_far (p := ⟨gb393, 2, none⟩) (Kd.R_far (p := ⟨gb393, 1, none⟩) (Kd.R_far (p := ⟨gb393, 0, none⟩) (Kd.R_mono HO_7.out (fun k_ hk => (⟨hk, hk⟩ : _ ∧ k_ ≠ gb393))) (fun _ hk => hk.2) (.int .i64 0)) (fun _ hk => hk.2) (.int .i64 0)) (fun _ hk => hk.2) (.int .i64 t391)) (fun _ hk => hk.2) (.int .i64 t392)) (fun _ hk => hk.1)⟩, ⟨blk_move BK382.out⟩, ⟨blk_move BK383.out⟩, ⟨blk_move BK387.out⟩, ⟨blk_move BK393.out⟩, ⟨by repeat (first | (with_reducible first | exact HB.out | apply below_alloc | apply pw_below_drewN | apply below_drew1 | refine below_set ?_ GE382.out | refine below_set ?_ GE383.out | refine below_set ?_ GE387.out | refine below_set ?_ GE393.out) | exact HB.out)⟩⟩
        case round =>
         clear H'
         try clear c1
         try clear c2
         try clear p2
         try clear c3
         try clear p3
         try clear q3
         try clear hx3
         try clear c18
         try clear c23
         try clear c28
         try clear c29
         try clear c30
         try clear c31
         try clear c38
         try clear p38
         try clear q38
         try clear hx38
         try clear hz30
         try clear hz32
         try clear hx386_10
         try clear hx386_11
         try clear hx386_12
         try clear hx386_13
         try clear hx386_14
         try clear hx386_15
         try clear hx386_8
         try clear hx386_9
         try clear p386
         try clear q386
         obtain ⟨x13_3, x394000_3, x394001_3, rfl, HA, HK3, HO_7, BK382, BK383, BK387, BK393, HB⟩ := hrel
         cases gk with
         | zero => exact absurd HA.out (by simp [errataref20_Analyze.l1])
         | succ k3 =>
          have H := HA.out
          clear HA
          simp only [errataref20_Analyze.l1] at H
          by_cases c44 : x13_3 < (((rd_T44 l0_1 x8_2).f1).length : Int)
          ·
           rw [if_pos c44] at H
           have c44b0 : decide (x13_3 < (((rd_T44 l0_1 x8_2).f1).length : Int)) = true := decide_eq_true c44
           clear c44
           by_cases c45 : 0 ≤ x13_3
           case neg => rw [if_neg c45] at H; exact absurd H (by simp)
           rw [if_pos c45] at H
           have c45b0 : decide (0 ≤ x13_3) = true := decide_eq_true c45
           clear c45
           by_cases c46 : 0 ≤ (rd ((rd_T44 l0_1 x8_2).f1) x13_3)
           case neg => rw [if_neg c46] at H; exact absurd H (by simp)
           rw [if_pos c46] at H
           have c46b0 : decide (0 ≤ (rd ((rd_T44 l0_1 x8_2).f1) x13_3)) = true := decide_eq_true c46
           clear c46
           by_cases c47 : (rd ((rd_T44 l0_1 x8_2).f1) x13_3) < (x7_2.length : Int)
           case neg => rw [if_neg c47] at H; exact absurd H (by simp)
           rw [if_pos c47] at H
           have c47b0 : decide ((rd ((rd_T44 l0_1 x8_2).f1) x13_3) < (x7_2.length : Int)) = true := decide_eq_true c47
           clear c47
           obtain ⟨ji48, hji48⟩ : ∃ j_ : Int, (mx x394000_3 ((rd_T37 x7_2 (rd ((rd_T44 l0_1 x8_2).f1) x13_3)).f0)) = j_ := ⟨_, rfl⟩
           replace H : (errataref20_Analyze.l1 k3 x7_2 x8_2 t389 t390 (wrap64 (x13_3 + 1)) l0_0 l0_1 a1_0 a1_1 a1_2 a1_3 a1_4 a1_5 ((rd_T44 l0_1 x8_2).f0) ((rd_T44 l0_1 x8_2).f1) ((rd_T44 l0_1 x8_2).f2) ((rd_T44 l0_1 x8_2).f3) ((rd_T44 l0_1 x8_2).f4) ((rd_T44 l0_1 x8_2).f5) ((rd_T44 l0_1 x8_2).f6) ((rd_T44 l0_1 x8_2).f7) ((rd_T44 l0_1 x8_2).f8) ((rd_T44 l0_1 x8_2).f9) ((rd_T44 l0_1 x8_2).f10) ((rd_T44 l0_1 x8_2).f11) ((rd_T44 l0_1 x8_2).f12) ((rd_T44 l0_1 x8_2).f13) ((rd_T44 l0_1 x8_2).f14) ((rd_T44 l0_1 x8_2).f15) ji48 (mx x394001_3 ((rd_T37 x7_2 (rd ((rd_T44 l0_1 x8_2).f1) x13_3)).f1)) t391 t392) = some (r1, r2, r3) := by first | (rw [hji48] at H; exact H) | (simp only [hji48] at H ⊢; exact H)
           have hji48_ : (if x394000_3 < ((rd_T37 x7_2 (rd ((rd_T44 l0_1 x8_2).f1) x13_3)).f0) then ((rd_T37 x7_2 (rd ((rd_T44 l0_1 x8_2).f1) x13_3)).f0) else x394000_3) = ji48 := hji48
           obtain ⟨ji49, hji49⟩ : ∃ j_ : Int, (mx x394001_3 ((rd_T37 x7_2 (rd ((rd_T44 l0_1 x8_2).f1) x13_3)).f1)) = j_ := ⟨_, rfl⟩
           replace H : (errataref20_Analyze.l1 k3 x7_2 x8_2 t389 t390 (wrap64 (x13_3 + 1)) l0_0 l0_1 a1_0 a1_1 a1_2 a1_3 a1_4 a1_5 ((rd_T44 l0_1 x8_2).f0) ((rd_T44 l0_1 x8_2).f1) ((rd_T44 l0_1 x8_2).f2) ((rd_T44 l0_1 x8_2).f3) ((rd_T44 l0_1 x8_2).f4) ((rd_T44 l0_1 x8_2).f5) ((rd_T44 l0_1 x8_2).f6) ((rd_T44 l0_1 x8_2).f7) ((rd_T44 l0_1 x8_2).f8) ((rd_T44 l0_1 x8_2).f9) ((rd_T44 l0_1 x8_2).f10) ((rd_T44 l0_1 x8_2).f11) ((rd_T44 l0_1 x8_2).f12) ((rd_T44 l0_1 x8_2).f13) ((rd_T44 l0_1 x8_2).f14) ((rd_T44 l0_1 x8_2).f15) ji48 ji49 t391 t392) = some (r1, r2, r3) := by first | (rw [hji49] at H; exact H) | (simp only [hji49] at H ⊢; exact H)
           have hji49_ : (if x394001_3 < ((rd_T37 x7_2 (rd ((rd_T44 l0_1 x8_2).f1) x13_3)).f1) then ((rd_T37 x7_2 (rd ((rd_T44 l0_1 x8_2).f1) x13_3)).f1) else x394001_3) = ji49 := hji49
           have H' := Aside0.mk H
           clear H
           have hnb50 := NB387_382.out
           have hnc50 := NB382_387.out
           have hnb51 := NB387_383.out
           have hnc51 := NB383_387.out
           have hnb52 := NB387_393.out
           have hnc52 := NB393_387.out
           have hz53 := blk16 BK387.out
           try go_wp2
           have n0_ := Aside0.mk (Kd.R_drew HO_7.out)
           have n1_ := Aside0.mk (blk_drew BK382.out)
           have n2_ := Aside0.mk (blk_drew BK383.out)
           have n3_ := Aside0.mk (blk_drew BK387.out)
           have n4_ := Aside0.mk (blk_drew BK393.out)
           have n5_ := Aside0.mk (below_drew1 HB.out)
           clear HO_7
           clear BK382
           clear BK383
           clear BK387
           clear BK393
           clear HB
           have HO_7 := n0_
           have BK382 := n1_
           have BK383 := n2_
           have BK387 := n3_
           have BK393 := n4_
           have HB := n5_
           clear n0_ n1_ n2_ n3_ n4_ n5_
           have p394 : 0 ≤ (x13_3 : Int) := odA
           have q394 : x13_3 < (((rd_T44 l0_1 x8_2).f1).length : Int) := odA
           obtain ⟨ad394, e394, hx394_0⟩ := Kd.at_int HR386_1.out x13_3 p394 q394
           have hw394_0 := hx394_0
           cases e394
           replace hx394_0 := pw_cell_below HB.out hx394_0
           replace p394 := eq_true p394
           replace q394 := eq_true q394
           have p395 : 0 ≤ ((rd ((rd_T44 l0_1 x8_2).f1) x13_3) : Int) := odA
           have q395 : (rd ((rd_T44 l0_1 x8_2).f1) x13_3) < (x7_2.length : Int) := odA
           obtain ⟨ad395, e395, hx395_0, hx395_1, hx395_2, hx395_3⟩ := at_T37 (Kd.R_reads' HO_7.out).2.2 (rd ((rd_T44 l0_1 x8_2).f1) x13_3) p395 q395
           cases e395
           replace p395 := eq_true p395
           replace q395 := eq_true q395
           refine start_ (n := 14) (S := fun w' => w'.cell? ⟨gb393, 0, none⟩ = some (.int .i64 x394000_3) ∧ w'.cell? ⟨gb393, 1, none⟩ = some (.int .i64 x394001_3) ∧ w'.cell? ⟨gb393, 2, none⟩ = some (.int .i64 t391) ∧ w'.cell? ⟨gb393, 3, none⟩ = some (.int .i64 t392) ∧ w'.cell? ⟨gb387, 0, none⟩ = some (.int .i64 ((rd_T44 l0_1 x8_2).f0)) ∧ w'.cell? ⟨gb387, 1, none⟩ = some (.slice (some ad394) ((rd_T44 l0_1 x8_2).f1).length c386_1) ∧ w'.cell? ⟨gb387, 2, none⟩ = some (.string ((rd_T44 l0_1 x8_2).f2)) ∧ w'.cell? ⟨gb387, 3, none⟩ = some (.int .i64 ((rd_T44 l0_1 x8_2).f3)) ∧ w'.cell? ⟨gb387, 4, none⟩ = some (.slice A386_4 ((rd_T44 l0_1 x8_2).f4).length c386_4) ∧ w'.cell? ⟨gb387, 5, none⟩ = some (.int .i64 ((rd_T44 l0_1 x8_2).f5)) ∧ w'.cell? ⟨gb387, 6, none⟩ = some (.int .i64 ((rd_T44 l0_1 x8_2).f6)) ∧ w'.cell? ⟨gb387, 7, none⟩ = some (.int .i64 ((rd_T44 l0_1 x8_2).f7)) ∧ w'.cell? ⟨gb387, 8, none⟩ = some (.slice A386_8 ((rd_T44 l0_1 x8_2).f8).length c386_8) ∧ w'.cell? ⟨gb387, 9, none⟩ = some (.slice A386_9 ((rd_T44 l0_1 x8_2).f9).length c386_9) ∧ w'.cell? ⟨gb387, 10, none⟩ = some (.int .i64 ((rd_T44 l0_1 x8_2).f10)) ∧ w'.cell? ⟨gb387, 11, none⟩ = some (.int .i64 ((rd_T44 l0_1 x8_2).f11)) ∧ w'.cell? ⟨gb387, 12, none⟩ = some (.int .i64 ((rd_T44 l0_1 x8_2).f12)) ∧ w'.cell? ⟨gb387, 13, none⟩ = some (.slice A386_13 ((rd_T44 l0_1 x8_2).f13).length c386_13) ∧ w'.cell? ⟨gb387, 14, none⟩ = some (.slice A386_14 ((rd_T44 l0_1 x8_2).f14).length c386_14) ∧ w'.cell? ⟨gb387, 15, none⟩ = some (.slice A386_15 ((rd_T44 l0_1 x8_2).f15).length c386_15) ∧ w'.cell? (ad394.add (x13_3).toNat) = some (.int .i64 (rd ((rd_T44 l0_1 x8_2).f1) x13_3)) ∧ w'.cell? (ad395.add (((rd ((rd_T44 l0_1 x8_2).f1) x13_3)).toNat * 4)) = some (.int .i64 ((rd_T37 x7_2 (rd ((rd_T44 l0_1 x8_2).f1) x13_3)).f0)) ∧ w'.cell? ⟨(ad395.add (((rd ((rd_T44 l0_1 x8_2).f1) x13_3)).toNat * 4)).block, (ad395.add (((rd ((rd_T44 l0_1 x8_2).f1) x13_3)).toNat * 4)).off + 1, none⟩ = some (.int .i64 ((rd_T37 x7_2 (rd ((rd_T44 l0_1 x8_2).f1) x13_3)).f1)) ∧ w'.cell? ⟨(ad395.add (((rd ((rd_T44 l0_1 x8_2).f1) x13_3)).toNat * 4)).block, (ad395.add (((rd ((rd_T44 l0_1 x8_2).f1) x13_3)).toNat * 4)).off + 2, none⟩ = some (.int .i64 ((rd_T37 x7_2 (rd ((rd_T44 l0_1 x8_2).f1) x13_3)).f2)) ∧ w'.cell? ⟨(ad395.add (((rd ((rd_T44 l0_1 x8_2).f1) x13_3)).toNat * 4)).block, (ad395.add (((rd ((rd_T44 l0_1 x8_2).f1) x13_3)).toNat * 4)).off + 3, none⟩ = some (.int .i64 ((rd_T37 x7_2 (rd ((rd_T44 l0_1 x8_2).f1) x13_3)).f3))) (ds := [13]) #[O,O,O,O,O,O,O,O,O,O,O,O,O,O] (by kernel_rfl) rfl rfl ⟨(blk_cell BK393.out 0).trans rfl, (blk_cell BK393.out 1).trans rfl, (blk_cell BK393.out 2).trans rfl, (blk_cell BK393.out 3).trans rfl, (blk_cell BK387.out 0).trans rfl, (blk_cell BK387.out 1).trans rfl, (blk_cell BK387.out 2).trans rfl, (blk_cell BK387.out 3).trans rfl, (blk_cell BK387.out 4).trans rfl, (blk_cell BK387.out 5).trans rfl, (blk_cell BK387.out 6).trans rfl, (blk_cell BK387.out 7).trans rfl, (blk_cell BK387.out 8).trans rfl, (blk_cell BK387.out 9).trans rfl, (blk_cell BK387.out 10).trans rfl, (blk_cell BK387.out 11).trans rfl, (blk_cell BK387.out 12).trans rfl, (blk_cell BK387.out 13).trans rfl, (blk_cell BK387.out 14).trans rfl, (blk_cell BK387.out 15).trans rfl, (pw_cell_below HB.out hw394_0), hx395_0, hx395_1, hx395_2, hx395_3⟩ (fun hHeld => ?_); refine with_tabW errataref20_Analyze.tab15 errataref20_Analyze.bits15 (fun HT_ HW_ => ?_)
           generalize wr.drew = w54 at HO_7 BK382 BK383 BK387 BK393 HB hx394_0 hx395_0 hx395_1 hx395_2 hx395_3 hHeld ⊢
           refine pureA 0 59 #[J,O,O,O,O,O,O,O,O,O,O,O,O,O] ?_
           refine pureA 2 61 #[J,O,J,O,O,O,O,O,O,O,O,O,O,O] ?_
           refine pureA 3 62 #[J,O,J,J,O,O,O,O,O,O,O,O,O,O] ?_
           refine pureA 5 64 #[J,O,J,J,O,J,O,O,O,O,O,O,O,O] ?_
           refine takeA 1 60 #[J,J,J,J,O,J,O,O,O,O,O,O,O,O] ?_
           refine takeA 4 63 #[J,J,J,J,J,J,O,O,O,O,O,O,O,O] ?_
           refine pureA 6 65 #[J,J,J,J,J,J,J,O,O,O,O,O,O,O] ?_
           refine takeA 7 66 #[J,J,J,J,J,J,J,J,O,O,O,O,O,O] ?_
           refine pureA 8 67 #[J,J,J,J,J,J,J,J,J,O,O,O,O,O] ?_
           refine pureA 9 68 #[J,J,J,J,J,J,J,J,J,J,O,O,O,O] ?_
           refine takeA 10 69 #[J,J,J,J,J,J,J,J,J,J,J,O,O,O] ?_
           refine pureA 11 70 #[J,J,J,J,J,J,J,J,J,J,J,J,O,O] ?_
           refine pureA 12 71 #[J,J,J,J,J,J,J,J,J,J,J,J,J,O] ?_
           refine last_ (i := 13) (N := none) #[J,J,J,J,J,J,J,J,J,J,J,J,J,J] rfl rfl (one_of HT_.out (by kernel_rfl)) (by decide) (fun K hK => ?_)
           have hs55 : w54.cell? ⟨gb393, 0, none⟩ = some (.int .i64 x394000_3) := (blk_cell BK393.out 0).trans rfl
           have hfs55 := blk_frozen BK393.out 0
           have hns55_0 := NB382_393.out
           have hns55_1 := NB383_393.out
           have hns55_2 := NB387_393.out
           have hms55_0 := NB393_382.out
           have hms55_1 := NB393_383.out
           have hms55_2 := NB393_387.out
           refine skip_ (w1 := ?_) (by rfl) rfl ?_ ?_
           rotate_left
           ·
            go_simp
            rfl
           refine hK.out _ _ ?_
           clear hK K
           refine done_ (done_of HT_.out (by kernel_rfl)) ?_
           try go_wp2
           have n0_ : Aside0 (Kd.R k37 37 (w54.setCell ⟨gb393, 0, none⟩ (.int .i64 ji48)) w.heap.size (fun k_ => k_ ≠ gb393) (.slice (some ad395) x7_2.length co34) x7_2) := ⟨by (with_reducible repeat (first | apply Kd.R_alloc | apply Kd.R_drewN | apply Kd.R_drew)); exact Kd.R_mono (Kd.R_far (p := ⟨gb393, 0, none⟩) (Kd.R_mono HO_7.out (fun k_ hk => (⟨hk, hk⟩ : _ ∧ k_ ≠ gb393))) (fun _ hk => hk.2) (.int .i64 ji48)) (fun _ hk => hk.1)⟩
           have n1_ : Aside0 ((w54.setCell ⟨gb393, 0, none⟩ (.int .i64 ji48)).heap[gb382]? = some (.cells #[.slice A0_0 l0_0.length c0_0, .slice (some ad386) l0_1.length c0_1] 25 (0, 0))) := ⟨blk_move BK382.out⟩
           have n2_ : Aside0 ((w54.setCell ⟨gb393, 0, none⟩ (.int .i64 ji48)).heap[gb383]? = some (.cells #[.int .i64 a1_0, .int .i64 a1_1, .int .i64 a1_2, .int .i64 a1_3, .int .i64 a1_4, .int .i64 a1_5] 27 (0, 0))) := ⟨blk_move BK383.out⟩
           have n3_ : Aside0 ((w54.setCell ⟨gb393, 0, none⟩ (.int .i64 ji48)).heap[gb387]? = some (.cells (A44 (rd_T44 l0_1 x8_2) (some ad394) c386_1 A386_4 c386_4 A386_8 c386_8 A386_9 c386_9 A386_13 c386_13 A386_14 c386_14 A386_15 c386_15) 44 (0, 0))) := ⟨blk_move BK387.out⟩
           have n4_ : Aside0 ((w54.setCell ⟨gb393, 0, none⟩ (.int .i64 ji48)).heap[gb393]? = some (.cells #[.int .i64 ji48, .int .i64 x394001_3, .int .i64 t391, .int .i64 t392] 37 (0, 0))) := ⟨blk_move BK393.out⟩
           have n5_ : Aside0 (Below w.heap.size w (w54.setCell ⟨gb393, 0, none⟩ (.int .i64 ji48))) := ⟨by repeat (first | (with_reducible first | exact HB.out | apply below_alloc | apply pw_below_drewN | apply below_drew1 | refine below_set ?_ GE382.out | refine below_set ?_ GE383.out | refine below_set ?_ GE387.out | refine below_set ?_ GE393.out) | exact HB.out)⟩
           (try clear HO_7)
           (try clear BK382)
           (try clear BK383)
           (try clear BK387)
           (try clear BK393)
           (try clear HB)
           generalize (w54.setCell ⟨gb393, 0, none⟩ (.int .i64 ji48)) = w56 at n0_ n1_ n2_ n3_ n4_ n5_ ⊢
           have HO_7 := n0_
           have BK382 := n1_
           have BK383 := n2_
           have BK387 := n3_
           have BK393 := n4_
           have HB := n5_
           clear n0_ n1_ n2_ n3_ n4_ n5_
           have n0_ := Aside0.mk (Kd.R_drew HO_7.out)
           have n1_ := Aside0.mk (blk_drew BK382.out)
           have n2_ := Aside0.mk (blk_drew BK383.out)
           have n3_ := Aside0.mk (blk_drew BK387.out)
           have n4_ := Aside0.mk (blk_drew BK393.out)
           have n5_ := Aside0.mk (below_drew1 HB.out)
           clear HO_7
           clear BK382
           clear BK383
           clear BK387
           clear BK393
           clear HB
           have HO_7 := n0_
           have BK382 := n1_
           have BK383 := n2_
           have BK387 := n3_
           have BK393 := n4_
           have HB := n5_
           clear n0_ n1_ n2_ n3_ n4_ n5_
           have p396 : 0 ≤ (x13_3 : Int) := odA
           have q396 : x13_3 < (((rd_T44 l0_1 x8_2).f1).length : Int) := odA
           obtain ⟨ad396, e396, hx396_0⟩ := Kd.at_int HR386_1.out x13_3 p396 q396
           have hw396_0 := hx396_0
           obtain rfl : ad394 = ad396 := (by injection e396)
           replace hx396_0 := pw_cell_below HB.out hx396_0
           replace p396 := eq_true p396
           replace q396 := eq_true q396
           have p397 : 0 ≤ ((rd ((rd_T44 l0_1 x8_2).f1) x13_3) : Int) := odA
           have q397 : (rd ((rd_T44 l0_1 x8_2).f1) x13_3) < (x7_2.length : Int) := odA
           obtain ⟨ad397, e397, hx397_0, hx397_1, hx397_2, hx397_3⟩ := at_T37 (Kd.R_reads' HO_7.out).2.2 (rd ((rd_T44 l0_1 x8_2).f1) x13_3) p397 q397
           obtain rfl : ad395 = ad397 := (by injection e397)
           replace p397 := eq_true p397
           replace q397 := eq_true q397
           refine start_ (n := 14) (S := fun w' => w'.cell? ⟨gb393, 0, none⟩ = some (.int .i64 ji48) ∧ w'.cell? ⟨gb393, 1, none⟩ = some (.int .i64 x394001_3) ∧ w'.cell? ⟨gb393, 2, none⟩ = some (.int .i64 t391) ∧ w'.cell? ⟨gb393, 3, none⟩ = some (.int .i64 t392) ∧ w'.cell? ⟨gb387, 0, none⟩ = some (.int .i64 ((rd_T44 l0_1 x8_2).f0)) ∧ w'.cell? ⟨gb387, 1, none⟩ = some (.slice (some ad394) ((rd_T44 l0_1 x8_2).f1).length c386_1) ∧ w'.cell? ⟨gb387, 2, none⟩ = some (.string ((rd_T44 l0_1 x8_2).f2)) ∧ w'.cell? ⟨gb387, 3, none⟩ = some (.int .i64 ((rd_T44 l0_1 x8_2).f3)) ∧ w'.cell? ⟨gb387, 4, none⟩ = some (.slice A386_4 ((rd_T44 l0_1 x8_2).f4).length c386_4) ∧ w'.cell? ⟨gb387, 5, none⟩ = some (.int .i64 ((rd_T44 l0_1 x8_2).f5)) ∧ w'.cell? ⟨gb387, 6, none⟩ = some (.int .i64 ((rd_T44 l0_1 x8_2).f6)) ∧ w'.cell? ⟨gb387, 7, none⟩ = some (.int .i64 ((rd_T44 l0_1 x8_2).f7)) ∧ w'.cell? ⟨gb387, 8, none⟩ = some (.slice A386_8 ((rd_T44 l0_1 x8_2).f8).length c386_8) ∧ w'.cell? ⟨gb387, 9, none⟩ = some (.slice A386_9 ((rd_T44 l0_1 x8_2).f9).length c386_9) ∧ w'.cell? ⟨gb387, 10, none⟩ = some (.int .i64 ((rd_T44 l0_1 x8_2).f10)) ∧ w'.cell? ⟨gb387, 11, none⟩ = some (.int .i64 ((rd_T44 l0_1 x8_2).f11)) ∧ w'.cell? ⟨gb387, 12, none⟩ = some (.int .i64 ((rd_T44 l0_1 x8_2).f12)) ∧ w'.cell? ⟨gb387, 13, none⟩ = some (.slice A386_13 ((rd_T44 l0_1 x8_2).f13).length c386_13) ∧ w'.cell? ⟨gb387, 14, none⟩ = some (.slice A386_14 ((rd_T44 l0_1 x8_2).f14).length c386_14) ∧ w'.cell? ⟨gb387, 15, none⟩ = some (.slice A386_15 ((rd_T44 l0_1 x8_2).f15).length c386_15) ∧ w'.cell? (ad394.add (x13_3).toNat) = some (.int .i64 (rd ((rd_T44 l0_1 x8_2).f1) x13_3)) ∧ w'.cell? (ad395.add (((rd ((rd_T44 l0_1 x8_2).f1) x13_3)).toNat * 4)) = some (.int .i64 ((rd_T37 x7_2 (rd ((rd_T44 l0_1 x8_2).f1) x13_3)).f0)) ∧ w'.cell? ⟨(ad395.add (((rd ((rd_T44 l0_1 x8_2).f1) x13_3)).toNat * 4)).block, (ad395.add (((rd ((rd_T44 l0_1 x8_2).f1) x13_3)).toNat * 4)).off + 1, none⟩ = some (.int .i64 ((rd_T37 x7_2 (rd ((rd_T44 l0_1 x8_2).f1) x13_3)).f1)) ∧ w'.cell? ⟨(ad395.add (((rd ((rd_T44 l0_1 x8_2).f1) x13_3)).toNat * 4)).block, (ad395.add (((rd ((rd_T44 l0_1 x8_2).f1) x13_3)).toNat * 4)).off + 2, none⟩ = some (.int .i64 ((rd_T37 x7_2 (rd ((rd_T44 l0_1 x8_2).f1) x13_3)).f2)) ∧ w'.cell? ⟨(ad395.add (((rd ((rd_T44 l0_1 x8_2).f1) x13_3)).toNat * 4)).block, (ad395.add (((rd ((rd_T44 l0_1 x8_2).f1) x13_3)).toNat * 4)).off + 3, none⟩ = some (.int .i64 ((rd_T37 x7_2 (rd ((rd_T44 l0_1 x8_2).f1) x13_3)).f3))) (ds := [13]) #[O,O,O,O,O,O,O,O,O,O,O,O,O,O] (by kernel_rfl) rfl rfl ⟨(blk_cell BK393.out 0).trans rfl, (blk_cell BK393.out 1).trans rfl, (blk_cell BK393.out 2).trans rfl, (blk_cell BK393.out 3).trans rfl, (blk_cell BK387.out 0).trans rfl, (blk_cell BK387.out 1).trans rfl, (blk_cell BK387.out 2).trans rfl, (blk_cell BK387.out 3).trans rfl, (blk_cell BK387.out 4).trans rfl, (blk_cell BK387.out 5).trans rfl, (blk_cell BK387.out 6).trans rfl, (blk_cell BK387.out 7).trans rfl, (blk_cell BK387.out 8).trans rfl, (blk_cell BK387.out 9).trans rfl, (blk_cell BK387.out 10).trans rfl, (blk_cell BK387.out 11).trans rfl, (blk_cell BK387.out 12).trans rfl, (blk_cell BK387.out 13).trans rfl, (blk_cell BK387.out 14).trans rfl, (blk_cell BK387.out 15).trans rfl, (pw_cell_below HB.out hw396_0), hx397_0, hx397_1, hx397_2, hx397_3⟩ (fun hHeld => ?_); refine with_tabW errataref20_Analyze.tab16 errataref20_Analyze.bits16 (fun HT_ HW_ => ?_)
           generalize w56.drew = w57 at HO_7 BK382 BK383 BK387 BK393 HB hx396_0 hx397_0 hx397_1 hx397_2 hx397_3 hHeld ⊢
           refine pureA 0 72 #[J,O,O,O,O,O,O,O,O,O,O,O,O,O] ?_
           refine pureA 2 74 #[J,O,J,O,O,O,O,O,O,O,O,O,O,O] ?_
           refine pureA 3 75 #[J,O,J,J,O,O,O,O,O,O,O,O,O,O] ?_
           refine pureA 5 77 #[J,O,J,J,O,J,O,O,O,O,O,O,O,O] ?_
           refine takeA 1 73 #[J,J,J,J,O,J,O,O,O,O,O,O,O,O] ?_
           refine takeA 4 76 #[J,J,J,J,J,J,O,O,O,O,O,O,O,O] ?_
           refine pureA 6 78 #[J,J,J,J,J,J,J,O,O,O,O,O,O,O] ?_
           refine takeA 7 79 #[J,J,J,J,J,J,J,J,O,O,O,O,O,O] ?_
           refine pureA 8 80 #[J,J,J,J,J,J,J,J,J,O,O,O,O,O] ?_
           refine pureA 9 81 #[J,J,J,J,J,J,J,J,J,J,O,O,O,O] ?_
           refine takeA 10 82 #[J,J,J,J,J,J,J,J,J,J,J,O,O,O] ?_
           refine pureA 11 83 #[J,J,J,J,J,J,J,J,J,J,J,J,O,O] ?_
           refine pureA 12 84 #[J,J,J,J,J,J,J,J,J,J,J,J,J,O] ?_
           refine last_ (i := 13) (N := none) #[J,J,J,J,J,J,J,J,J,J,J,J,J,J] rfl rfl (one_of HT_.out (by kernel_rfl)) (by decide) (fun K hK => ?_)
           have hs58 : w57.cell? ⟨gb393, 1, none⟩ = some (.int .i64 x394001_3) := (blk_cell BK393.out 1).trans rfl
           have hfs58 := blk_frozen BK393.out 1
           have hns58_0 := NB382_393.out
           have hns58_1 := NB383_393.out
           have hns58_2 := NB387_393.out
           have hms58_0 := NB393_382.out
           have hms58_1 := NB393_383.out
           have hms58_2 := NB393_387.out
           refine skip_ (w1 := ?_) (by rfl) rfl ?_ ?_
           rotate_left
           ·
            go_simp
            rfl
           refine hK.out _ _ ?_
           clear hK K
           refine done_ (done_of HT_.out (by kernel_rfl)) ?_
           try go_wp2
           go_roundg k3
           case measure => have := HJ2.out; have := HK2.out; have := HK3.out; omega
           case rel => exact ⟨(wrap64 (x13_3 + 1)), (ji48), (ji49), (by first | rfl | (simp; done) | (simp [*]; done)), H', ⟨by have := HJ2.out; have := HK2.out; have := HK3.out; omega⟩, ⟨by (with_reducible repeat (first | apply Kd.R_alloc | apply Kd.R_drewN | apply Kd.R_drew)); exact Kd.R_mono (Kd.R_far (p := ⟨gb393, 1, none⟩) (Kd.R_mono HO_7.out (fun k_ hk => (⟨hk, hk⟩ : _ ∧ k_ ≠ gb393))) (fun _ hk => hk.2) (.int .i64 ji49)) (fun _ hk => hk.1)⟩, ⟨blk_move BK382.out⟩, ⟨blk_move BK383.out⟩, ⟨blk_move BK387.out⟩, ⟨blk_move BK393.out⟩, ⟨by repeat (first | (with_reducible first | exact HB.out | apply below_alloc | apply pw_below_drewN | apply below_drew1 | refine below_set ?_ GE382.out | refine below_set ?_ GE383.out | refine below_set ?_ GE387.out | refine below_set ?_ GE393.out) | exact HB.out)⟩⟩
          ·
           rw [if_neg c44] at H
           have c44b0 : decide (x13_3 < (((rd_T44 l0_1 x8_2).f1).length : Int)) = false := decide_eq_false c44
           clear c44
           by_cases c59 : t391 ≥ 1099511627776
           ·
            rw [if_pos c59] at H
            have c59b0 : decide (1099511627776 ≤ t391) = true := decide_eq_true c59
            clear c59
            simp only [Option.some.injEq, Prod.mk.injEq] at H
            obtain ⟨rfl, rfl, rfl⟩ := H
            have hnb60 := NB387_382.out
            have hnc60 := NB382_387.out
            have hnb61 := NB387_383.out
            have hnc61 := NB383_387.out
            have hnb62 := NB387_393.out
            have hnc62 := NB393_387.out
            have hz63 := blk16 BK387.out
            have hnb64 := NB393_382.out
            have hnc64 := NB382_393.out
            have hnb65 := NB393_383.out
            have hnc65 := NB383_393.out
            have hz66 := blk4 BK393.out
            go_wp2
            go_ret3
            exact ⟨_, by first | rfl | (simp [errW_none, errW_some] <;> rfl) | (simp [*, errW_none, errW_some] <;> rfl), by first | exact Kd.R_nil _ _ _ _ _ | exact Kd.N_nil _ _ _ _ _ | exact Kd.V_nil _ _ _ _ _ | exact Kd.Q_nil _ _ _ _ _ | exact Kd.S_nil _ _ _ _ _, belowA⟩
           ·
            rw [if_neg c59] at H
            have c59b0 : decide (1099511627776 ≤ t391) = false := decide_eq_false c59
            clear c59
            by_cases c67 : t392 ≥ 1099511627776
            ·
             rw [if_pos c67] at H
             have c67b0 : decide (1099511627776 ≤ t392) = true := decide_eq_true c67
             clear c67
             simp only [Option.some.injEq, Prod.mk.injEq] at H
             obtain ⟨rfl, rfl, rfl⟩ := H
             have hnb68 := NB387_382.out
             have hnc68 := NB382_387.out
             have hnb69 := NB387_383.out
             have hnc69 := NB383_387.out
             have hnb70 := NB387_393.out
             have hnc70 := NB393_387.out
             have hz71 := blk16 BK387.out
             have hnb72 := NB393_382.out
             have hnc72 := NB382_393.out
             have hnb73 := NB393_383.out
             have hnc73 := NB383_393.out
             have hz74 := blk4 BK393.out
             go_wp2
             go_ret3
             exact ⟨_, by first | rfl | (simp [errW_none, errW_some] <;> rfl) | (simp [*, errW_none, errW_some] <;> rfl), by first | exact Kd.R_nil _ _ _ _ _ | exact Kd.N_nil _ _ _ _ _ | exact Kd.V_nil _ _ _ _ _ | exact Kd.Q_nil _ _ _ _ _ | exact Kd.S_nil _ _ _ _ _, belowA⟩
            ·
             rw [if_neg c67] at H
             have c67b0 : decide (1099511627776 ≤ t392) = false := decide_eq_false c67
             clear c67
             by_cases c75 : x7_2.length < 4398046511104
             case neg => rw [if_neg c75] at H; exact absurd H (by simp)
             rw [if_pos c75] at H
             have LMc75 := Aside0.mk c75
             clear c75
             obtain ⟨y398, hy398⟩ : ∃ y_ : List (S37), y_ = (x7_2 ++ [(⟨wrap64 (x394000_3 + t389), wrap64 (x394001_3 + t390), t391, t392⟩ : S37)]) := ⟨_, rfl⟩
             replace H : (errataref20_Analyze.l0 k3 y398 (wrap64 (x8_2 + 1)) l0_0 l0_1 a1_0 a1_1 a1_2 a1_3 a1_4 a1_5) = some (r1, r2, r3) := by first | (rw [hy398]; with_reducible exact H) | (have H2_ := (Option.bind_some _ _).symm.trans H; rw [hy398]; with_reducible exact H2_) | (have H2_ := (Option.bind_some _ _).symm.trans H; with_reducible exact H2_) | with_reducible exact H | (rw [hy398]; exact H) | exact H
             have Ny398 := Aside0.mk hy398
             clear hy398
             have H' := Aside0.mk H
             clear H
             have hnb76 := NB387_382.out
             have hnc76 := NB382_387.out
             have hnb77 := NB387_383.out
             have hnc77 := NB383_387.out
             have hnb78 := NB387_393.out
             have hnc78 := NB393_387.out
             have hz79 := blk16 BK387.out
             have hnb80 := NB393_382.out
             have hnc80 := NB382_393.out
             have hnb81 := NB393_383.out
             have hnc81 := NB383_393.out
             have hz82 := blk4 BK393.out
             go_wp2_with (first | ((with_reducible refine gate_builtin (b := .append) (xs := #[.tmp 104, .tmp 106]) rfl ?_); at_builtin; refine Kd.R_append k37 (w0 := w) w.heap.size rfl (.tmp 104) (.tmp 106) 30 37 (.agg #[(.int .i64 0), (.int .i64 0), (.int .i64 0), (.int .i64 0)]) 32 rfl Try.underlying30 info37 rfl (by decide) (by omega) (.slice Ao34 x7_2.length co34) x7_2 (⟨wrap64 (x394000_3 + t389), wrap64 (x394001_3 + t390), t391, t392⟩ : S37) [.int .i64 (wrap64 (x394000_3 + t389)), .int .i64 (wrap64 (x394001_3 + t390)), .int .i64 t391, .int .i64 t392] (fun k_ => k_ ≠ gb393) (fun _ => False) rfl (by first | (go_simp; done) | (go_simp; rfl)) ?aP (fun _ hk => hk.elim) ?aF ?aO ?aB ?aS ?aL ?_; (case aP => exact k37_mkM _ _ _ (⟨wrap64 (x394000_3 + t389), wrap64 (x394001_3 + t390), t391, t392⟩ : S37)); (case aB => exact belowA); (case aF => exact (fun k_ hk => Kd.freshB (g := gb393) (o := .cells #[.int .i64 (wrap64 (x394000_3 + t389)), .int .i64 (wrap64 (x394001_3 + t390)), .int .i64 t391, .int .i64 t392] 37 (0, 0)) (blk_move BK393.out) k_ hk)); (case aO => exact (by (with_reducible repeat (first | apply Kd.R_alloc | apply Kd.R_drewN | apply Kd.R_drew)); exact Kd.R_mono (Kd.R_far (p := ⟨gb393, 1, none⟩) (Kd.R_far (p := ⟨gb393, 0, none⟩) (Kd.R_mono HO_7.out (fun k_ hk => (⟨hk, hk⟩ : _ ∧ k_ ≠ gb393))) (fun _ hk => hk.2) (.int .i64 (wrap64 (x394000_3 + t389)))) (fun _ hk => hk.2) (.int .i64 (wrap64 (x394001_3 + t390)))) (fun _ hk => hk.1))); (case aS => exact below_sizeA); (case aL => have := LMc75.out; omega); intro v399 w83 ho hb hg hat; rw [← Ny398.out] at ho; have n0_ := Aside0.mk (blk_grown (g := gb382) (o := .cells #[.slice A0_0 l0_0.length c0_0, .slice (some ad386) l0_1.length c0_1] 25 (0, 0)) (blk_move BK382.out) hg (Kd.R_ne HO_7.out BK382.out (by decide))); have n1_ := Aside0.mk (blk_grown (g := gb383) (o := .cells #[.int .i64 a1_0, .int .i64 a1_1, .int .i64 a1_2, .int .i64 a1_3, .int .i64 a1_4, .int .i64 a1_5] 27 (0, 0)) (blk_move BK383.out) hg (Kd.R_ne HO_7.out BK383.out (by decide))); have n2_ := Aside0.mk (blk_grown (g := gb387) (o := .cells (A44 (rd_T44 l0_1 x8_2) A386_1 c386_1 A386_4 c386_4 A386_8 c386_8 A386_9 c386_9 A386_13 c386_13 A386_14 c386_14 A386_15 c386_15) 44 (0, 0)) (blk_move BK387.out) hg (Kd.R_ne HO_7.out BK387.out (by decide))); have n3_ := Aside0.mk (blk_grown (g := gb393) (o := .cells #[.int .i64 (wrap64 (x394000_3 + t389)), .int .i64 (wrap64 (x394001_3 + t390)), .int .i64 t391, .int .i64 t392] 37 (0, 0)) (blk_move BK393.out) hg (Kd.R_away HO_7.out (fun _ hk => hk))); have n4_ := Aside0.mk (hb); have n5_ := Aside0.mk (ho); clear BK382; clear BK383; clear BK387; clear BK393; clear HB; clear HO_7; have BK382 := n0_; have BK383 := n1_; have BK387 := n2_; have BK393 := n3_; have HB := n4_; have HO400 := n5_; clear n0_ n1_ n2_ n3_ n4_ n5_; clear ho hb hg hat))
             go_roundg k3
             case measure => have := HJ2.out; have := HK2.out; have := HK3.out; omega
             case rel => exact ⟨(y398), (wrap64 (x8_2 + 1)), (by first | rfl | (simp; done) | (simp [*]; done)), H', ⟨by have := HJ2.out; have := HK2.out; have := HK3.out; omega⟩, ⟨by (with_reducible repeat (first | apply Kd.R_alloc | apply Kd.R_drewN | apply Kd.R_drew)); exact Kd.R_mono HO400.out (fun _ hk => trivial)⟩, ⟨blk_move BK382.out⟩, ⟨blk_move BK383.out⟩, ⟨by repeat (first | (with_reducible first | exact HB.out | apply below_alloc | apply pw_below_drewN | apply below_drew1 | refine below_set ?_ GE382.out | refine below_set ?_ GE383.out | refine below_set ?_ GE387.out | refine below_set ?_ GE393.out) | exact HB.out)⟩⟩
       ·
        replace c21 := Bool.eq_false_iff.mpr c21
        subst c21
        rw [if_neg (show ¬ (false = true) by decide)] at H
        simp only [Option.some.injEq, Prod.mk.injEq] at H
        obtain ⟨rfl, rfl, rfl⟩ := H
        have hnb84 := NB382_383.out
        have hnc84 := NB383_382.out
        have hz85 := blk2 BK382.out
        have p386 : 0 ≤ (x8_2 : Int) := odA
        have q386 : x8_2 < (l0_1.length : Int) := odA
        obtain ⟨ad386, A386_1, c386_1, A386_4, c386_4, A386_8, c386_8, A386_9, c386_9, A386_13, c386_13, A386_14, c386_14, A386_15, c386_15, e386, hx386_0, hx386_1, hx386_2, hx386_3, hx386_4, hx386_5, hx386_6, hx386_7, hx386_8, hx386_9, hx386_10, hx386_11, hx386_12, hx386_13, hx386_14, hx386_15, hl386_1, hi386_1, hl386_4, hi386_4, hl386_8, hi386_8, hl386_9, hi386_9, hl386_13, hi386_13, hl386_14, hi386_14, hl386_15, hi386_15⟩ := at_T44 HR0_1.out x8_2 p386 q386
        cases e386
        replace hx386_0 := pw_cell_below HB.out hx386_0
        replace hx386_1 := pw_cell_below HB.out hx386_1
        replace hx386_2 := pw_cell_below HB.out hx386_2
        replace hx386_3 := pw_cell_below HB.out hx386_3
        replace hx386_4 := pw_cell_below HB.out hx386_4
        replace hx386_5 := pw_cell_below HB.out hx386_5
        replace hx386_6 := pw_cell_below HB.out hx386_6
        replace hx386_7 := pw_cell_below HB.out hx386_7
        replace hx386_8 := pw_cell_below HB.out hx386_8
        replace hx386_9 := pw_cell_below HB.out hx386_9
        replace hx386_10 := pw_cell_below HB.out hx386_10
        replace hx386_11 := pw_cell_below HB.out hx386_11
        replace hx386_12 := pw_cell_below HB.out hx386_12
        replace hx386_13 := pw_cell_below HB.out hx386_13
        replace hx386_14 := pw_cell_below HB.out hx386_14
        replace hx386_15 := pw_cell_below HB.out hx386_15
        have HR386_1 := Aside0.mk hi386_1
        have HC386_1 := Aside0.mk hl386_1
        clear hi386_1 hl386_1
        have HR386_4 := Aside0.mk hi386_4
        have HC386_4 := Aside0.mk hl386_4
        clear hi386_4 hl386_4
        have HR386_8 := Aside0.mk hi386_8
        have HC386_8 := Aside0.mk hl386_8
        clear hi386_8 hl386_8
        have HR386_9 := Aside0.mk hi386_9
        have HC386_9 := Aside0.mk hl386_9
        clear hi386_9 hl386_9
        have HR386_13 := Aside0.mk hi386_13
        have HC386_13 := Aside0.mk hl386_13
        clear hi386_13 hl386_13
        have HR386_14 := Aside0.mk hi386_14
        have HC386_14 := Aside0.mk hl386_14
        clear hi386_14 hl386_14
        have HR386_15 := Aside0.mk hi386_15
        have HC386_15 := Aside0.mk hl386_15
        clear hi386_15 hl386_15
        replace p386 := eq_true p386
        replace q386 := eq_true q386
        go_wp2_with (first | ((with_reducible refine gate_dst (N := 9) rfl ?_); refine box_event ?hg (N := 9) ?hd (cs := #[.int .i64 0, .slice none 0 0, .string (⟨#[]⟩ : ByteArray), .int .i64 0, .slice none 0 0, .int .i64 0, .int .i64 0, .int .i64 0, .slice none 0 0, .slice none 0 0, .int .i64 0, .int .i64 0, .int .i64 0, .slice none 0 0, .slice none 0 0, .slice none 0 0]) (t := 44) ?hr ?_; (case hd => rfl); (case hg => rfl); (case hr => first | (go_simp; done) | (go_simp; rfl)); intro gb387 hg w86 hbox hb; have BK387 := Aside0.mk (hbox); have GW387 := Aside0.mk ((by rw [hg]; exact below_sizeA : w.heap.size ≤ gb387)); have GE387 := GW387; have NB382_387 := Aside0.mk ((by rw [hg]; exact Nat.ne_of_lt (blk_ltKA BK382.out) : gb382 ≠ gb387)); have NB387_382 := Aside0.mk NB382_387.out.symm; have NB383_387 := Aside0.mk ((by rw [hg]; exact Nat.ne_of_lt (blk_ltKA BK383.out) : gb383 ≠ gb387)); have NB387_383 := Aside0.mk NB383_387.out.symm; replace HO_7 := Aside0.mk (r_belowA HO_7.out hb); replace BK382 := Aside0.mk (blk_keepA BK382.out hb); replace BK383 := Aside0.mk (blk_keepA BK383.out hb); replace HB := Aside0.mk (below_stepA hb); clear hb hbox hg; have hnb87 := NB387_382.out; have hnc87 := NB382_387.out; have hnb88 := NB387_383.out; have hnc88 := NB383_387.out; have hz89 := blk16 BK387.out) | ((with_reducible refine gate_callee (f := 23) rfl ?_); refine goesL_ (some 35) rfl rfl Try.func23 (by kernel_rfl) rfl #[.agg (A44 (rd_T44 l0_1 x8_2) A386_1 c386_1 A386_4 c386_4 A386_8 c386_8 A386_9 c386_9 A386_13 c386_13 A386_14 c386_14 A386_15 c386_15)] rfl mapA ?_; (with_reducible refine (errataref20_Bounded.calls _ _ _ _ _ _ _ _ _ _ _ _ _ _ _ _ _ _ _ _ _ _ _ _ _ _ _ _ _ _ false _ (c_belowB HR386_1.out) HC386_1.out (c_belowB HR386_4.out) HC386_4.out (c_belowB HR386_8.out) HC386_8.out (c_belowB HR386_9.out) HC386_9.out (c_belowB HR386_13.out) HC386_13.out (c_belowB HR386_14.out) HC386_14.out (c_belowB HR386_15.out) HC386_15.out A20.out).mono ?_); rintro e w90 ⟨rfl, hb⟩; refine ⟨_, rfl, ?_⟩; replace HO_7 := Aside0.mk (r_belowT HO_7.out BK387.out hb); replace BK382 := Aside0.mk (blk_keepA BK382.out hb); replace BK383 := Aside0.mk (blk_keepA BK383.out hb); replace BK387 := Aside0.mk (blk_below (g := gb387) (o := .cells (A44 (rd_T44 l0_1 x8_2) A386_1 c386_1 A386_4 c386_4 A386_8 c386_8 A386_9 c386_9 A386_13 c386_13 A386_14 c386_14 A386_15 c386_15) 44 (0, 0)) (blk_move BK387.out) hb); replace HB := Aside0.mk (below_stepA hb); (try clear hb)))
        go_ret3
        exact ⟨_, by first | rfl | (simp [errW_none, errW_some] <;> rfl) | (simp [*, errW_none, errW_some] <;> rfl), by first | exact Kd.R_nil _ _ _ _ _ | exact Kd.N_nil _ _ _ _ _ | exact Kd.V_nil _ _ _ _ _ | exact Kd.Q_nil _ _ _ _ _ | exact Kd.S_nil _ _ _ _ _, belowA⟩
      ·
       rw [if_neg c18] at H
       have c18b0 : decide (x8_2 < (l0_1.length : Int)) = false := decide_eq_false c18
       clear c18
       simp only [Option.some.injEq, Prod.mk.injEq] at H
       obtain ⟨rfl, rfl, rfl⟩ := H
       have hnb91 := NB382_383.out
       have hnc91 := NB383_382.out
       have hz92 := blk2 BK382.out
       go_wp2
       go_ret3
       exact ⟨_, by first | rfl | (simp [errW_none, errW_some] <;> rfl) | (simp [*, errW_none, errW_some] <;> rfl), by (with_reducible repeat (first | apply Kd.R_alloc | apply Kd.R_drewN | apply Kd.R_drew)); exact HO_7.out, belowA⟩

end Go.Proofs.Yteoljddobfnfiaa.PB
end
section
namespace Go.Proofs.Yteoljddobfnfiaa.Pure
open Go.RowKit Go.Proofs.YteoljddobfnfiaaW.PrintWords Go.Proofs.YteoljddobfnfiaaW.PrintLast Go.Proofs.YteoljddobfnfiaaW.PrintMore Go.Proofs.Yteoljddobfnfiaa.PB
set_option linter.unusedVariables false
set_option linter.unusedSimpArgs false

theorem inputs_eq (op : Int) (h : 0 ≤ op ∧ op ≤ 8) : errataref20_inputs.f op = some (ins op) := by
  have : op = 0 ∨ op = 1 ∨ op = 2 ∨ op = 3 ∨ op = 4 ∨ op = 5 ∨ op = 6 ∨ op = 7 ∨ op = 8 := by omega
  rcases this with rfl | rfl | rfl | rfl | rfl | rfl | rfl | rfl | rfl <;> rfl
theorem rtimes_ev {a b : Int} (ha : 0 ≤ a) (hm : a ≤ 1099511627776) (hb : 0 ≤ b) : Ev (fun k => errataref20_times.f k a b) (mn (a * b) 1099511627776) := by
  by_cases h0 : a = 0
  · subst h0
    rw [Int.zero_mul]
    refine Ev.congr (fun k => by unfold errataref20_times.f; rw [if_pos rfl]) (Ev.step (f := fun _ => some 0) (fun k => ?_) (Ev.now _))
    simp only [errataref20_times.j0, if_true]
  · by_cases h1 : b = 0
    · subst h1
      rw [Int.mul_zero]
      refine Ev.congr (fun k => by unfold errataref20_times.f; rw [if_neg h0]) (Ev.step (f := fun _ => some 0) (fun k => ?_) (Ev.now _))
      simp only [errataref20_times.j0, beq_self_eq_true, if_true]
    · refine Ev.congr (fun k => by unfold errataref20_times.f; rw [if_neg h0]) (Ev.step (f := fun _ => some (mn (a * b) 1099511627776)) (fun k => ?_) (Ev.now _))
      simp only [errataref20_times.j0]
      have hq : (1099511627776 : Int) / b ≤ 1099511627776 := Int.ediv_le_self _ (by omega)
      have hq0 : 0 ≤ (1099511627776 : Int) / b := Int.ediv_nonneg (by omega) (by omega)
      rw [if_neg (by simpa using h1), if_neg h1, Int.tdiv_eq_ediv_of_nonneg (by omega), wrap_id (by omega) (by omega)]
      by_cases h2 : a > 1099511627776 / b
      · rw [if_pos h2]
        have : 1099511627776 < a * b := (Int.ediv_lt_iff_lt_mul (by omega)).1 h2
        unfold mn
        rw [if_pos this]
      · rw [if_neg h2]
        have : a * b ≤ 1099511627776 := (Int.le_ediv_iff_mul_le (by omega)).1 (by omega)
        have h3 := mul_nn ha hb
        rw [wrap_id (by omega) (by omega)]
theorem rrate_ev {i c0 c1 c2 c3 c4 c5 : Int} {bs : List S37} (n : S44) (hn : okNode i n = true) (h : pre i bs) (hi : 0 ≤ i ∧ i ≤ 40) (hb : bdd n = true) (h0 : 1 ≤ c0 ∧ c0 ≤ 8) (h4 : 1 ≤ c4 ∧ c4 ≤ 20) :
    Ev (fun k => errataref20_rate.f k n.f0 n.f1 n.f2 n.f3 n.f4 n.f5 n.f6 n.f7 n.f8 n.f9 n.f10 n.f11 n.f12 n.f13 n.f14 n.f15 bs c0 c1 c2 c3 c4 c5) (rateOf bs c0 c4 n) := by
  obtain ⟨hop, hin, hl⟩ := node_ins hn
  have hr := rateOf_range h hn hb h0 h4
  by_cases e0 : n.f0 = 0
  · have e : rateOf bs c0 c4 n = c0 * c4 := by unfold rateOf; rw [if_pos e0]
    refine Ev.congr (fun k => ?_) (Ev.now _)
    unfold errataref20_rate.f
    rw [if_pos e0, ← e, wrap_id (by omega) (by omega)]
  have l0 := ins1 hin e0
  have a0 := in_at hl l0
  have k0 : okB i (rd_T37 bs (rd n.f1 0)) := pre_at h a0.1 a0.2
  have b0 := h.1
  rw [show ((0 : Nat) : Int) = 0 from rfl] at a0
  by_cases e3 : n.f0 = 3
  · have l1 := ins2 hin (by omega)
    have a1 := in_at hl l1
    have k1 : okB i (rd_T37 bs (rd n.f1 1)) := pre_at h a1.1 a1.2
    rw [show ((1 : Nat) : Int) = 1 from rfl] at a1
    have e : rateOf bs c0 c4 n = mn ((rd_T37 bs (rd n.f1 0)).f2 + (rd_T37 bs (rd n.f1 1)).f2) 1099511627776 := by unfold rateOf; rw [if_neg e0, if_pos e3]
    refine Ev.congr (fun k => ?_) (Ev.now _)
    unfold errataref20_rate.f
    have p0 := k0.2.2.1
    have p1 := k1.2.2.1
    rw [if_neg e0, if_pos (by omega), if_pos a0.1, if_pos (by omega), if_pos e3, if_pos (by omega), if_pos a1.1, if_pos (by omega), wrap_id (by omega) (by omega), e]
  by_cases e4 : n.f0 = 4 ∨ n.f0 = 5
  · have hs := bdd_size n hb (by omega)
    have e : rateOf bs c0 c4 n = mn ((rd_T37 bs (rd n.f1 0)).f2 * n.f6) 1099511627776 := by unfold rateOf; rw [if_neg e0, if_neg e3, if_pos e4]
    rw [e]
    have ht := rtimes_ev (a := (rd_T37 bs (rd n.f1 0)).f2) (b := n.f6) (by have := k0.2.2.1; omega) k0.2.2.1.2 (by omega)
    refine Ev.congr (f := fun k => errataref20_rate.j0 k bs ((rd_T37 bs (rd n.f1 0)).f2) n.f0 true n.f0 n.f1 n.f2 n.f3 n.f4 n.f5 n.f6 n.f7 n.f8 n.f9 n.f10 n.f11 n.f12 n.f13 n.f14 n.f15) (fun k => ?_) (Ev.step (f := fun k => (errataref20_times.f k (rd_T37 bs (rd n.f1 0)).f2 n.f6).bind fun t => some t) (fun k => ?_) (Ev.bind ht (Ev.now _)))
    · unfold errataref20_rate.f
      rw [if_neg e0, if_pos (by omega), if_pos a0.1, if_pos (by omega), if_neg e3]
      rcases e4 with e4 | e4
      · rw [if_pos e4, e4]
        rfl
      · rw [if_neg (by omega), e4]
        rfl
    · simp only [errataref20_rate.j0, if_true]
  by_cases e6 : n.f0 = 6
  · have l1 := ins2 hin (by omega)
    have a1 := in_at hl l1
    have k1 : okB i (rd_T37 bs (rd n.f1 1)) := pre_at h a1.1 a1.2
    rw [show ((1 : Nat) : Int) = 1 from rfl] at a1
    have hj := bdd_join n hb e6
    have hp := mul_pos1 k0.2.2.1.1 k1.2.2.1.1
    have e : rateOf bs c0 c4 n = mn (mn ((rd_T37 bs (rd n.f1 0)).f2 * (rd_T37 bs (rd n.f1 1)).f2) 1099511627776 * (n.f10 + n.f11 + 2)) 1099511627776 := by unfold rateOf; rw [if_neg e0, if_neg e3, if_neg e4, if_pos e6]
    rw [e]
    have ht := rtimes_ev (a := (rd_T37 bs (rd n.f1 0)).f2) (b := (rd_T37 bs (rd n.f1 1)).f2) (by have := k0.2.2.1; omega) k0.2.2.1.2 (by have := k1.2.2.1; omega)
    have ht2 := rtimes_ev (a := mn ((rd_T37 bs (rd n.f1 0)).f2 * (rd_T37 bs (rd n.f1 1)).f2) 1099511627776) (b := n.f10 + n.f11 + 2) (le_mn (by omega) (by omega)) (mn_le _ _) (by omega)
    refine Ev.congr (f := fun k => errataref20_rate.j0 k bs ((rd_T37 bs (rd n.f1 0)).f2) n.f0 false n.f0 n.f1 n.f2 n.f3 n.f4 n.f5 n.f6 n.f7 n.f8 n.f9 n.f10 n.f11 n.f12 n.f13 n.f14 n.f15) (fun k => ?_)
      (Ev.step (f := fun k => (errataref20_times.f k (rd_T37 bs (rd n.f1 0)).f2 (rd_T37 bs (rd n.f1 1)).f2).bind fun t372 => ((errataref20_times.f k t372 (n.f10 + n.f11 + 2)).bind fun t373 => (some t373))) (fun k => ?_) (Ev.bind ht (Ev.bind ht2 (Ev.now _))))
    · unfold errataref20_rate.f
      rw [if_neg e0, if_pos (by omega), if_pos a0.1, if_pos (by omega), if_neg e3, if_neg (by omega), e6]
      rfl
    · simp only [errataref20_rate.j0, Bool.false_eq_true, if_false]
      rw [if_pos e6, if_pos (by omega), if_pos a1.1, if_pos (by omega), wrap_id (n := n.f10 + n.f11) (by omega) (by omega), wrap_id (n := n.f10 + n.f11 + 2) (by omega) (by omega)]
  have e : rateOf bs c0 c4 n = (rd_T37 bs (rd n.f1 0)).f2 := by unfold rateOf; rw [if_neg e0, if_neg e3, if_neg e4, if_neg e6]
  rw [e]
  refine Ev.congr (f := fun k => errataref20_rate.j0 k bs ((rd_T37 bs (rd n.f1 0)).f2) n.f0 false n.f0 n.f1 n.f2 n.f3 n.f4 n.f5 n.f6 n.f7 n.f8 n.f9 n.f10 n.f11 n.f12 n.f13 n.f14 n.f15) (fun k => ?_) (Ev.step (f := fun _ => some (rd_T37 bs (rd n.f1 0)).f2) (fun k => ?_) (Ev.now _))
  · unfold errataref20_rate.f
    rw [if_neg e0, if_pos (by omega), if_pos a0.1, if_pos (by omega), if_neg e3, if_neg (by omega), show (n.f0 == 5) = false by simp; omega]
  · simp only [errataref20_rate.j0, Bool.false_eq_true, if_false]
    rw [if_neg e6]
theorem rstate_l0 {i c0 c1 c2 c3 c4 c5 : Int} {bs : List S37} (n : S44) (hn : okNode i n = true) (h : pre i bs) (hi : 0 ≤ i ∧ i ≤ 40) (h5 : 0 ≤ c5 ∧ c5 ≤ 30000) (o : Int) (ho : 0 ≤ o ∧ o ≤ 10000) : ∀ d j : Nat, j + d = n.f1.length → ∀ s : Int, 0 ≤ s ∧ s ≤ 1099511627776 →
    Ev (fun k => errataref20_state.l0 k bs o s (j : Int) n.f0 n.f1 n.f2 n.f3 n.f4 n.f5 n.f6 n.f7 n.f8 n.f9 n.f10 n.f11 n.f12 n.f13 n.f14 n.f15 c0 c1 c2 c3 c4 c5) (stOf bs c5 o (n.f1.drop j) s)
  | 0, j, hj, s, hs => by
    refine Ev.step (f := fun _ => some s) (fun k => ?_) (by rw [List.drop_of_length_le (by omega)]; exact Ev.now _)
    simp only [errataref20_state.l0]
    rw [if_neg (by omega)]
  | d + 1, j, hj, s, hs => by
    obtain ⟨hop, hin, hl⟩ := node_ins hn
    have hjl : j < n.f1.length := by omega
    have e : n.f1.drop j = n.f1[j] :: n.f1.drop (j + 1) := List.drop_eq_getElem_cons hjl
    have hx := okIn_mem hl (List.getElem_mem hjl)
    have hk := pre_at h hx.1 hx.2
    have il := ins_le n.f0
    have hm : 0 ≤ (rd_T37 bs n.f1[j]).f2 * (c5 + (rd_T37 bs n.f1[j]).f1 + o) := mul_nn (by have := hk.2.2.1.1; omega) (by have := hk.2.1.1; omega)
    have hm2 := le_mn hm (show (0 : Int) ≤ 1099511627776 by omega)
    have hm3 := mn_le ((rd_T37 bs n.f1[j]).f2 * (c5 + (rd_T37 bs n.f1[j]).f1 + o)) 1099511627776
    have ht := rtimes_ev (a := (rd_T37 bs n.f1[j]).f2) (b := c5 + (rd_T37 bs n.f1[j]).f1 + o) (by have := hk.2.2.1; omega) hk.2.2.1.2 (by have := hk.2.1; omega)
    have ih := rstate_l0 n hn h hi h5 o ho d (j + 1) (by omega) (mn (s + mn ((rd_T37 bs n.f1[j]).f2 * (c5 + (rd_T37 bs n.f1[j]).f1 + o)) 1099511627776) 1099511627776) ⟨le_mn (by omega) (by omega), mn_le _ _⟩ (c0 := c0) (c1 := c1) (c2 := c2) (c3 := c3) (c4 := c4)
    rw [e]
    refine Ev.step (f := fun k => (errataref20_times.f k (rd_T37 bs n.f1[j]).f2 (c5 + (rd_T37 bs n.f1[j]).f1 + o)).bind fun t381 => errataref20_state.l0 k bs o (mn (wrap64 (s + t381)) 1099511627776) ((j + 1 : Nat) : Int) n.f0 n.f1 n.f2 n.f3 n.f4 n.f5 n.f6 n.f7 n.f8 n.f9 n.f10 n.f11 n.f12 n.f13 n.f14 n.f15 c0 c1 c2 c3 c4 c5) (fun k => ?_) (Ev.bind ht ?_)
    · simp only [errataref20_state.l0]
      rw [if_pos (by omega), if_pos (by omega), rd_at hjl, if_pos hx.1, if_pos (by have := h.1; omega), wrap_id (n := c5 + _) (by have := hk.2.1; omega) (by have := hk.2.1; omega), wrap_id (n := c5 + _ + o) (by have := hk.2.1; omega) (by have := hk.2.1; omega), wrap_id (n := (j : Int) + 1) (by omega) (by omega), cast_succ]
    · refine Ev.congr (fun k => ?_) ih
      rw [wrap_id (n := s + _) (by omega) (by omega)]
theorem rstate_ev {i c0 c1 c2 c3 c4 c5 : Int} {bs : List S37} (n : S44) (hn : okNode i n = true) (h : pre i bs) (hi : 0 ≤ i ∧ i ≤ 40) (h5 : 0 ≤ c5 ∧ c5 ≤ 30000) :
    Ev (fun k => errataref20_state.f k n.f0 n.f1 n.f2 n.f3 n.f4 n.f5 n.f6 n.f7 n.f8 n.f9 n.f10 n.f11 n.f12 n.f13 n.f14 n.f15 bs c0 c1 c2 c3 c4 c5) (if 4 ≤ n.f0 then stOf bs c5 (ownB n) n.f1 0 else 0) := by
  by_cases e : 4 ≤ n.f0
  · rw [if_pos e]
    have w := own_range n
    have := rstate_l0 n hn h hi h5 (ownB n) ⟨w.1, w.2.1⟩ n.f1.length 0 (by omega) 0 (by omega) (c0 := c0) (c1 := c1) (c2 := c2) (c3 := c3) (c4 := c4)
    rw [List.drop_zero] at this
    refine Ev.congr (fun k => ?_) this
    unfold errataref20_state.f
    rw [if_neg (by omega), rOwn_eq, Option.bind_some]
    rfl
  · rw [if_neg e]
    refine Ev.congr (fun k => ?_) (Ev.now _)
    unfold errataref20_state.f
    rw [if_pos (by omega)]
theorem rWell_l1 (i : Int) (l : List S44) (F : List S95) (n : S44) (hi : 0 ≤ i ∧ i ≤ 9223372036854775807) (hn : n.f1.length ≤ 9223372036854775807) (rest : Bool)
    (hr : Ev (fun k => errataref20_Well.l0 k (wrap64 (i + 1)) F l) rest) : ∀ d j : Nat, j + d = n.f1.length → Ev (fun k => errataref20_Well.l1 k i (j : Int) F l n.f0 n.f1 n.f2 n.f3 n.f4 n.f5 n.f6 n.f7 n.f8 n.f9 n.f10 n.f11 n.f12 n.f13 n.f14 n.f15) (okIn i (n.f1.drop j) && rest)
  | 0, j, h => by
    refine Ev.step (f := fun k => errataref20_Well.l0 k (wrap64 (i + 1)) F l) (fun k => ?_) (by rw [List.drop_of_length_le (by omega)]; simpa [okIn] using hr)
    simp only [errataref20_Well.l1]
    rw [if_neg (by omega)]
  | d + 1, j, h => by
    have hj : j < n.f1.length := by omega
    have e : n.f1.drop j = n.f1[j] :: n.f1.drop (j + 1) := List.drop_eq_getElem_cons hj
    have ih := rWell_l1 i l F n hi hn rest hr d (j + 1) (by omega)
    by_cases hx : 0 ≤ n.f1[j] ∧ n.f1[j] < i
    · refine Ev.step (f := fun k => errataref20_Well.l1 k i ((j + 1 : Nat) : Int) F l n.f0 n.f1 n.f2 n.f3 n.f4 n.f5 n.f6 n.f7 n.f8 n.f9 n.f10 n.f11 n.f12 n.f13 n.f14 n.f15) (fun k => ?_) (by rw [e, okIn_cons, decide_eq_true hx]; simpa using ih)
      simp only [errataref20_Well.l1]
      rw [if_pos (by omega), if_pos (by omega), rd_at hj, if_neg (by omega), if_neg (by omega), wrap_id (n := (j : Int) + 1) (by omega) (by omega), cast_succ]
    · refine Ev.step (f := fun _ => some (okIn i (n.f1.drop j) && rest)) (fun k => ?_) (Ev.now _)
      rw [e, okIn_cons, decide_eq_false hx]
      simp only [errataref20_Well.l1]
      rw [if_pos (by omega), if_pos (by omega), rd_at hj]
      by_cases h0 : n.f1[j] < 0
      · rw [if_pos h0]
        rfl
      · rw [if_neg h0, if_pos (by omega)]
        rfl
theorem rWell_from (l : List S44) (F : List S95) (hl : l.length ≤ 9223372036854775807) (hin : ∀ n ∈ l, n.f1.length ≤ 9223372036854775807) : ∀ d i : Nat, i + d = l.length →
    Ev (fun k => errataref20_Well.l0 k (i : Int) F l) (okFrom i (l.drop i))
  | 0, i, h => by
    refine Ev.step (f := fun _ => some (okFrom i (l.drop i))) (fun k => ?_) (Ev.now _)
    simp only [errataref20_Well.l0]
    rw [if_neg (by omega), List.drop_of_length_le (by omega)]
    rfl
  | d + 1, i, h => by
    have hi : i < l.length := by omega
    have e : l.drop i = l[i] :: l.drop (i + 1) := List.drop_eq_getElem_cons hi
    have ih := rWell_from l F hl hin d (i + 1) (by omega)
    have hlen := hin l[i] (List.getElem_mem hi)
    rw [← cast_succ] at ih
    have ihw : Ev (fun k => errataref20_Well.l0 k (wrap64 ((i : Int) + 1)) F l) (okFrom ((i : Int) + 1) (l.drop (i + 1))) := by
      rw [wrap_id (n := (i : Int) + 1) (by omega) (by omega)]
      exact ih
    have hno : ∀ b : Bool, b = true → Ev (fun k => errataref20_Well.j2 k (i : Int) b F l (l[i]).f0 (l[i]).f1 (l[i]).f2 (l[i]).f3 (l[i]).f4 (l[i]).f5 (l[i]).f6 (l[i]).f7 (l[i]).f8 (l[i]).f9 (l[i]).f10 (l[i]).f11 (l[i]).f12 (l[i]).f13 (l[i]).f14 (l[i]).f15) false := by
      rintro b rfl
      refine Ev.step (f := fun _ => some false) (fun k => ?_) (Ev.now _)
      simp only [errataref20_Well.j2, if_true]
    rw [e]
    by_cases h0 : (l[i]).f0 < 0
    · refine Ev.step (f := fun k => errataref20_Well.j2 k (i : Int) true F l (l[i]).f0 (l[i]).f1 (l[i]).f2 (l[i]).f3 (l[i]).f4 (l[i]).f5 (l[i]).f6 (l[i]).f7 (l[i]).f8 (l[i]).f9 (l[i]).f10 (l[i]).f11 (l[i]).f12 (l[i]).f13 (l[i]).f14 (l[i]).f15) (fun k => ?_) ?_
      · simp only [errataref20_Well.l0]
        rw [if_pos (by omega), if_pos (by omega), rd44_at hi, if_pos h0]
      · simp only [okFrom, okNode, decide_eq_false (show ¬ (0 ≤ (l[i]).f0 ∧ (l[i]).f0 ≤ 8) by omega), Bool.false_and]
        exact hno true rfl
    by_cases h9 : (l[i]).f0 ≥ 9
    · refine Ev.step (f := fun k => errataref20_Well.j2 k (i : Int) true F l (l[i]).f0 (l[i]).f1 (l[i]).f2 (l[i]).f3 (l[i]).f4 (l[i]).f5 (l[i]).f6 (l[i]).f7 (l[i]).f8 (l[i]).f9 (l[i]).f10 (l[i]).f11 (l[i]).f12 (l[i]).f13 (l[i]).f14 (l[i]).f15) (fun k => ?_) ?_
      · simp only [errataref20_Well.l0]
        rw [if_pos (by omega), if_pos (by omega), rd44_at hi, if_neg h0, if_pos h9]
      · simp only [okFrom, okNode, decide_eq_false (show ¬ (0 ≤ (l[i]).f0 ∧ (l[i]).f0 ≤ 8) by omega), Bool.false_and]
        exact hno true rfl
    have ho : 0 ≤ (l[i]).f0 ∧ (l[i]).f0 ≤ 8 := by omega
    refine Ev.step (f := fun k => errataref20_Well.j2 k (i : Int) (((l[i]).f1.length : Int) != ins (l[i]).f0) F l (l[i]).f0 (l[i]).f1 (l[i]).f2 (l[i]).f3 (l[i]).f4 (l[i]).f5 (l[i]).f6 (l[i]).f7 (l[i]).f8 (l[i]).f9 (l[i]).f10 (l[i]).f11 (l[i]).f12 (l[i]).f13 (l[i]).f14 (l[i]).f15) (fun k => ?_) ?_
    · simp only [errataref20_Well.l0]
      rw [if_pos (by omega), if_pos (by omega), rd44_at hi, if_neg h0, if_neg h9, inputs_eq _ ho, Option.bind_some]
    by_cases hc : ((l[i]).f1.length : Int) = ins (l[i]).f0
    · rw [show (((l[i]).f1.length : Int) != ins (l[i]).f0) = false by simp [hc]]
      have hw := rWell_l1 (i : Int) l F l[i] (by omega) hlen _ ihw (l[i]).f1.length 0 (by omega)
      rw [List.drop_zero] at hw
      simp only [okFrom, okNode, decide_eq_true ho, decide_eq_true hc, Bool.true_and]
      refine Ev.step (fun k => ?_) hw
      simp only [errataref20_Well.j2, Bool.false_eq_true, if_false]
      rfl
    · simp only [okFrom, okNode, decide_eq_false hc, Bool.false_and, Bool.and_false]
      exact hno _ (by simp [hc])
theorem rWell_ev (l : List S44) (F : List S95) (hl : l.length ≤ 9223372036854775807) (hin : ∀ n ∈ l, n.f1.length ≤ 9223372036854775807) : Ev (fun k => errataref20_Well.f k F l) (well l) := by
  unfold well
  by_cases h1 : (l.length : Int) < 1
  · rw [decide_eq_false (show ¬ (1 ≤ (l.length : Int) ∧ (l.length : Int) ≤ 40) by omega), Bool.and_false]
    refine Ev.congr (fun k => by unfold errataref20_Well.f; rw [if_pos h1]) (Ev.step (f := fun _ => some false) (fun k => ?_) (Ev.now _))
    simp only [errataref20_Well.j0, if_true]
  by_cases h2 : (l.length : Int) > 40
  · rw [decide_eq_false (show ¬ (1 ≤ (l.length : Int) ∧ (l.length : Int) ≤ 40) by omega), Bool.and_false]
    refine Ev.congr (fun k => by unfold errataref20_Well.f; rw [if_neg h1, decide_eq_true h2]) (Ev.step (f := fun _ => some false) (fun k => ?_) (Ev.now _))
    simp only [errataref20_Well.j0, if_true]
  rw [decide_eq_true (show 1 ≤ (l.length : Int) ∧ (l.length : Int) ≤ 40 by omega), Bool.and_true]
  have := rWell_from l F hl hin l.length 0 (by omega)
  rw [List.drop_zero] at this
  refine Ev.congr (fun k => by unfold errataref20_Well.f; rw [if_neg h1, decide_eq_false h2]) (Ev.step (f := fun k => errataref20_Well.l0 k 0 F l) (fun k => ?_) this)
  simp only [errataref20_Well.j0, Bool.false_eq_true, if_false]
end Go.Proofs.Yteoljddobfnfiaa.Pure
end
section
namespace Go.Proofs.Yteoljddobfnfiaa.PB
open Go.RowKit Go.Proofs.YteoljddobfnfiaaW.PrintWords Go.Proofs.YteoljddobfnfiaaW.PrintLast Go.Proofs.YteoljddobfnfiaaW.PrintMore
attribute [local go_sem] max2_int min2_int max_two min_two max_three min_three max_four min_four
attribute [local go_sem ↓ high] Go.Proofs.Yteoljddobfnfiaa.My.ld44_eq Go.Proofs.Yteoljddobfnfiaa.My.st44_eq Go.Proofs.Yteoljddobfnfiaa.My.ld27_eq Go.Proofs.Yteoljddobfnfiaa.My.st27_eq Go.Proofs.Yteoljddobfnfiaa.My.ld37_eq Go.Proofs.Yteoljddobfnfiaa.My.st37_eq Go.Proofs.Yteoljddobfnfiaa.My.ld65_eq Go.Proofs.Yteoljddobfnfiaa.My.st65_eq
attribute [local go_sem high] Go.Proofs.Yteoljddobfnfiaa.My.ld44_run Go.Proofs.Yteoljddobfnfiaa.My.st44_run Go.Proofs.Yteoljddobfnfiaa.My.ld27_run Go.Proofs.Yteoljddobfnfiaa.My.st27_run Go.Proofs.Yteoljddobfnfiaa.My.ld37_run Go.Proofs.Yteoljddobfnfiaa.My.st37_run Go.Proofs.Yteoljddobfnfiaa.My.ld65_run Go.Proofs.Yteoljddobfnfiaa.My.st65_run
open Go.Proofs.Yteoljddobfnfiaa.My
attribute [local go_sem] cell_map run_store_fnV one_int one_bool one_string one_slice one_fnV
set_option linter.unusedVariables false
set_option linter.unusedSimpArgs false

def bounds_Total.l0 : Nat → List (S37) → Int → List (S37) → Int → Int → Option (Int × Int × Int × Int × Int)
  | 0, _, _, _, _, _ => none
  | k + 1, x6, x9, x24, x25, x26 => if x26 < x25 then (if 0 ≤ x26 then (if x26 < (x24.length : Int) then ((bounds_plus.f x9 ((rd_T37 x24 x26).f3)).bind fun t411 => (bounds_Total.l0 k x6 t411 x24 x25 (wrap64 (x26 + 1)))) else (none)) else (none)) else (if 0 ≤ (wrap64 ((x6.length : Int) - 1)) then (if (wrap64 ((x6.length : Int) - 1)) < (x6.length : Int) then (some ((rd_T37 x6 (wrap64 ((x6.length : Int) - 1))).f0, (rd_T37 x6 (wrap64 ((x6.length : Int) - 1))).f1, (rd_T37 x6 (wrap64 ((x6.length : Int) - 1))).f2, x9, 0)) else (none)) else (none))
def bounds_Total.f (k : Nat) (l0_0 : List (S95)) (l0_1 : List (S44)) (a1_0 : Int) (a1_1 : Int) (a1_2 : Int) (a1_3 : Int) (a1_4 : Int) (a1_5 : Int) : Option (Int × Int × Int × Int × Int) := (bounds_Analyze.f k l0_0 l0_1 a1_0 a1_1 a1_2 a1_3 a1_4 a1_5).bind fun bt404 => (if bt404.2.2 = 0 then (bounds_Total.l0 k bt404.1 0 bt404.1 (bt404.1.length : Int) 0) else (some (0, 0, 0, 0, bt404.2.2)))
set_option maxHeartbeats 8000000 in
set_option maxRecDepth 100000 in
theorem bounds_Total.calls (k : Nat) (A0_0 : Option Addr) (c0_0 : Nat) (l0_0 : List (S95)) (A0_1 : Option Addr) (c0_1 : Nat) (l0_1 : List (S44)) (a1_0 : Int) (a1_1 : Int) (a1_2 : Int) (a1_3 : Int) (a1_4 : Int) (a1_5 : Int) (r1 : Int) (r2 : Int) (r3 : Int) (r4 : Int) (r5 : Int) (w : World) (hr0_0 : Kd.C k95 w A0_0 l0_0.length l0_0) (hc0_0 : l0_0.length ≤ c0_0) (hr0_1 : Kd.C k44 w A0_1 l0_1.length l0_1) (hc0_1 : l0_1.length ≤ c0_1) (h : bounds_Total.f k l0_0 l0_1 a1_0 a1_1 a1_2 a1_3 a1_4 a1_5 = some (r1, r2, r3, r4, r5)) :
    Calls Try.prog 15 #[.agg #[.slice A0_0 l0_0.length c0_0, .slice A0_1 l0_1.length c0_1], .agg #[.int .i64 a1_0, .int .i64 a1_1, .int .i64 a1_2, .int .i64 a1_3, .int .i64 a1_4, .int .i64 a1_5]] w fun e w' => e = .returned (.tuple #[.agg #[.int .i64 r1, .int .i64 r2, .int .i64 r3, .int .i64 r4], .int .i64 r5]) ∧ Below w.heap.size w w' := by
 have hu25 := Try.underlying25
 have hu27 := Try.underlying27
 have hu37 := Try.underlying37
 have HR0_0 := Aside0.mk hr0_0
 have HC0_0 := Aside0.mk hc0_0
 clear hr0_0 hc0_0
 have HR0_1 := Aside0.mk hr0_1
 have HC0_1 := Aside0.mk hc0_1
 clear hr0_1 hc0_1
 have HB := Aside0.mk (Below.refl w.heap.size w)
 have H : ((bounds_Analyze.f k l0_0 l0_1 a1_0 a1_1 a1_2 a1_3 a1_4 a1_5).bind fun bt404 => (if bt404.2.2 = 0 then (bounds_Total.l0 k bt404.1 0 bt404.1 (bt404.1.length : Int) 0) else (some (0, 0, 0, 0, bt404.2.2)))) = some (r1, r2, r3, r4, r5) := h
 clear h
 replace H := Option.bind_eq_some_iff.mp H
 obtain ⟨⟨t404, t407, t408⟩, A30, H⟩ := H
 try dsimp only at H
 have A3 := Aside0.mk A30
 clear A30
 by_cases c4 : t408 = 0
 ·
  rw [if_pos c4] at H
  have c4b0 : (t408 == 0) = true := beq_iff_eq.mpr c4
  have c4b1 : (t408 != 0) = false := bne_eq_false_iff_eq.mpr c4
  clear c4
  have H' := Aside0.mk H
  clear H
  go_enter Try.func15, Try.ntmps15
  go_wp2_with (first | ((with_reducible refine gate_dst (N := 2) rfl ?_); refine box_event ?hg (N := 2) ?hd (cs := #[.slice A0_0 l0_0.length c0_0, .slice A0_1 l0_1.length c0_1]) (t := 25) ?hr ?_; (case hd => rfl); (case hg => rfl); (case hr => first | (go_simp; done) | (go_simp; rfl)); intro gb401 hg w5 hbox hb; have BK401 := Aside0.mk (hbox); have GW401 := Aside0.mk ((by rw [hg]; exact below_sizeA : w.heap.size ≤ gb401)); have GE401 := GW401; replace HB := Aside0.mk (below_stepA hb); clear hb hbox hg) | ((with_reducible refine gate_dst (N := 3) rfl ?_); refine box_event ?hg (N := 3) ?hd (cs := #[.int .i64 a1_0, .int .i64 a1_1, .int .i64 a1_2, .int .i64 a1_3, .int .i64 a1_4, .int .i64 a1_5]) (t := 27) ?hr ?_; (case hd => rfl); (case hg => rfl); (case hr => first | (go_simp; done) | (go_simp; rfl)); intro gb402 hg w6 hbox hb; have BK402 := Aside0.mk (hbox); have GW402 := Aside0.mk ((by rw [hg]; exact below_sizeA : w.heap.size ≤ gb402)); have GE402 := GW402; have NB401_402 := Aside0.mk ((by rw [hg]; exact Nat.ne_of_lt (blk_ltKA BK401.out) : gb401 ≠ gb402)); have NB402_401 := Aside0.mk NB401_402.out.symm; replace BK401 := Aside0.mk (blk_keepA BK401.out hb); replace HB := Aside0.mk (below_stepA hb); clear hb hbox hg) | ((with_reducible refine gate_dst (N := 4) rfl ?_); refine box_event ?hg (N := 4) ?hd (cs := #[.int .i64 0, .int .i64 0, .int .i64 0, .int .i64 0]) (t := 37) ?hr ?_; (case hd => rfl); (case hg => rfl); (case hr => first | (go_simp; done) | (go_simp; rfl)); intro gb403 hg w7 hbox hb; have BK403 := Aside0.mk (hbox); have GW403 := Aside0.mk ((by rw [hg]; exact below_sizeA : w.heap.size ≤ gb403)); have GE403 := GW403; have NB401_403 := Aside0.mk ((by rw [hg]; exact Nat.ne_of_lt (blk_ltKA BK401.out) : gb401 ≠ gb403)); have NB403_401 := Aside0.mk NB401_403.out.symm; have NB402_403 := Aside0.mk ((by rw [hg]; exact Nat.ne_of_lt (blk_ltKA BK402.out) : gb402 ≠ gb403)); have NB403_402 := Aside0.mk NB402_403.out.symm; replace BK401 := Aside0.mk (blk_keepA BK401.out hb); replace BK402 := Aside0.mk (blk_keepA BK402.out hb); replace HB := Aside0.mk (below_stepA hb); clear hb hbox hg; have hnb8 := NB401_402.out; have hnc8 := NB402_401.out; have hnb9 := NB401_403.out; have hnc9 := NB403_401.out; have hz10 := blk2 BK401.out; have hnb11 := NB402_403.out; have hnc11 := NB403_402.out; have hz12 := blk6 BK402.out) | ((with_reducible refine gate_callee (f := 9) rfl ?_); refine goesL_ (some 16) rfl rfl Try.func9 (by kernel_rfl) rfl #[.agg #[.slice A0_0 l0_0.length c0_0, .slice A0_1 l0_1.length c0_1], .agg #[.int .i64 a1_0, .int .i64 a1_1, .int .i64 a1_2, .int .i64 a1_3, .int .i64 a1_4, .int .i64 a1_5]] rfl mapA ?_; (with_reducible refine (bounds_Analyze.calls k _ _ l0_0 _ _ l0_1 a1_0 a1_1 a1_2 a1_3 a1_4 a1_5 t404 t407 t408 _ (c_belowA HR0_0.out) HC0_0.out (c_belowA HR0_1.out) HC0_1.out A3.out).mono ?_); rintro e w13 ⟨v405, rfl, ho0, hb⟩; refine ⟨_, rfl, ?_⟩; have HO406 := Aside0.mk (Kd.R_lower (Kd.R_newB ho0 (g := gb403) (o := .cells #[.int .i64 0, .int .i64 0, .int .i64 0, .int .i64 0] 37 (0, 0)) (blk_move BK403.out)) below_sizeA); replace BK401 := Aside0.mk (blk_keepA BK401.out hb); replace BK402 := Aside0.mk (blk_keepA BK402.out hb); replace BK403 := Aside0.mk (blk_keepA BK403.out hb); replace HB := Aside0.mk (below_stepA hb); (try clear hb); (try clear ho0); obtain ⟨Ao14, co14, eo14⟩ := Kd.R_slice HO406.out; subst eo14))
  go_loopg [9, 26] k (fun kq v9 v26 w' => ∃ (x9_1 : Int) (x26_1 : Int), v9 = .int .i64 x9_1 ∧ v26 = .int .i64 x26_1 ∧ Aside0 (bounds_Total.l0 kq t404 x9_1 t404 (t404.length : Int) x26_1 = some (r1, r2, r3, r4, r5)) ∧ Aside0 (kq ≤ k) ∧ Aside0 (Kd.R k37 37 w' w.heap.size (fun k_ => k_ ≠ gb403) (.slice Ao14 t404.length co14) t404) ∧ Aside0 (Kd.R k37 37 w' w.heap.size (fun k_ => k_ ≠ gb403) (.slice Ao14 t404.length co14) t404) ∧ Aside0 (w'.heap[gb401]? = some (.cells #[(.slice A0_0 l0_0.length c0_0), (.slice A0_1 l0_1.length c0_1)] 25 (0, 0))) ∧ Aside0 (w'.heap[gb402]? = some (.cells #[.int .i64 a1_0, .int .i64 a1_1, .int .i64 a1_2, .int .i64 a1_3, .int .i64 a1_4, .int .i64 a1_5] 27 (0, 0))) ∧ Aside0 (w'.heap[gb403]? = some (.cells #[.int .i64 0, .int .i64 0, .int .i64 0, .int .i64 0] 37 (0, 0))) ∧ Aside0 (Below w.heap.size w w'))
  case atStart => exact ⟨(0), (0), (by first | rfl | (simp; done) | (simp [*]; done)), (by first | rfl | (simp; done) | (simp [*]; done)), H', ⟨Nat.le_refl _⟩, ⟨by (with_reducible repeat (first | apply Kd.R_alloc | apply Kd.R_drewN | apply Kd.R_drew)); exact Kd.R_mono HO406.out (fun _ hk => hk.2)⟩, ⟨by (with_reducible repeat (first | apply Kd.R_alloc | apply Kd.R_drewN | apply Kd.R_drew)); exact Kd.R_mono HO406.out (fun _ hk => hk.2)⟩, ⟨blk_move BK401.out⟩, ⟨blk_move BK402.out⟩, ⟨blk_move BK403.out⟩, ⟨by repeat (first | (with_reducible first | exact HB.out | apply below_alloc | apply pw_below_drewN | apply below_drew1 | refine below_set ?_ GE401.out | refine below_set ?_ GE402.out | refine below_set ?_ GE403.out) | exact HB.out)⟩⟩
  case round =>
   clear H'
   try clear c1
   try clear p2
   try clear c4
   try clear c4b0
   try clear c4b1
   try clear c8
   try clear c9
   try clear c11
   try clear hz10
   try clear hz12
   obtain ⟨x9_1, x26_1, rfl, rfl, HA, HK1, HO_6, HO_24, BK401, BK402, BK403, HB⟩ := hrel
   cases gk with
   | zero => exact absurd HA.out (by simp [bounds_Total.l0])
   | succ k1 =>
    have H := HA.out
    clear HA
    simp only [bounds_Total.l0] at H
    by_cases c15 : x26_1 < (t404.length : Int)
    ·
     rw [if_pos c15] at H
     have c15b0 : decide (x26_1 < (t404.length : Int)) = true := decide_eq_true c15
     clear c15
     by_cases c16 : 0 ≤ x26_1
     case neg => rw [if_neg c16] at H; exact absurd H (by simp)
     rw [if_pos c16] at H
     have c16b0 : decide (0 ≤ x26_1) = true := decide_eq_true c16
     clear c16
     by_cases c17 : x26_1 < (t404.length : Int)
     case neg => rw [if_neg c17] at H; exact absurd H (by simp)
     rw [if_pos c17] at H
     have c17b0 : decide (x26_1 < (t404.length : Int)) = true := decide_eq_true c17
     clear c17
     replace H := Option.bind_eq_some_iff.mp H
     obtain ⟨t411, A180, H⟩ := H
     try dsimp only at H
     have A18 := Aside0.mk A180
     clear A180
     have H' := Aside0.mk H
     clear H
     have p409 : 0 ≤ (x26_1 : Int) := odA
     have q409 : x26_1 < (t404.length : Int) := odA
     obtain ⟨ad409, e409, hx409_0, hx409_1, hx409_2, hx409_3⟩ := at_T37 (Kd.R_reads' HO_24.out).2.2 x26_1 p409 q409
     cases e409
     replace p409 := eq_true p409
     replace q409 := eq_true q409
     go_wp2_with (first | ((with_reducible refine gate_dst (N := 11) rfl ?_); refine box_event ?hg (N := 11) ?hd (cs := #[.int .i64 0, .int .i64 0, .int .i64 0, .int .i64 0]) (t := 37) ?hr ?_; (case hd => rfl); (case hg => rfl); (case hr => first | (go_simp; done) | (go_simp; rfl)); intro gb410 hg w19 hbox hb; have BK410 := Aside0.mk (hbox); have GW410 := Aside0.mk ((by rw [hg]; exact below_sizeA : w.heap.size ≤ gb410)); have GE410 := GW410; have NB401_410 := Aside0.mk ((by rw [hg]; exact Nat.ne_of_lt (blk_ltKA BK401.out) : gb401 ≠ gb410)); have NB410_401 := Aside0.mk NB401_410.out.symm; have NB402_410 := Aside0.mk ((by rw [hg]; exact Nat.ne_of_lt (blk_ltKA BK402.out) : gb402 ≠ gb410)); have NB410_402 := Aside0.mk NB402_410.out.symm; have NB403_410 := Aside0.mk ((by rw [hg]; exact Nat.ne_of_lt (blk_ltKA BK403.out) : gb403 ≠ gb410)); have NB410_403 := Aside0.mk NB403_410.out.symm; replace HO_6 := Aside0.mk (Kd.R_below (Kd.R_elderB (by (with_reducible repeat (first | apply Kd.R_alloc | apply Kd.R_drewN | apply Kd.R_drew)); exact HO_6.out) gb410 (Nat.le_of_eq hg.symm)) hb); replace HO_24 := Aside0.mk (Kd.R_below (Kd.R_elderB (by (with_reducible repeat (first | apply Kd.R_alloc | apply Kd.R_drewN | apply Kd.R_drew)); exact HO_24.out) gb410 (Nat.le_of_eq hg.symm)) hb); replace BK401 := Aside0.mk (blk_keepA BK401.out hb); replace BK402 := Aside0.mk (blk_keepA BK402.out hb); replace BK403 := Aside0.mk (blk_keepA BK403.out hb); replace HB := Aside0.mk (below_stepA hb); clear hb hbox hg; have hnb20 := NB410_401.out; have hnc20 := NB401_410.out; have hnb21 := NB410_402.out; have hnc21 := NB402_410.out; have hnb22 := NB410_403.out; have hnc22 := NB403_410.out; have hz23 := blk4 BK410.out) | ((with_reducible refine gate_callee (f := 32) rfl ?_); refine goesL_ (some 33) rfl rfl Try.func32 (by kernel_rfl) rfl #[.int .i64 x9_1, .int .i64 ((rd_T37 t404 x26_1).f3)] rfl mapA ?_; (with_reducible refine (bounds_plus.calls x9_1 _ t411 _ A18.out).mono ?_); rintro e w24 ⟨rfl, hb⟩; refine ⟨_, rfl, ?_⟩; replace HO_6 := Aside0.mk (Kd.R_below (by (with_reducible repeat (first | apply Kd.R_alloc | apply Kd.R_drewN | apply Kd.R_drew)); exact (Kd.R_mono (Kd.R_far (p := ⟨gb410, 3, none⟩) (Kd.R_far (p := ⟨gb410, 2, none⟩) (Kd.R_far (p := ⟨gb410, 1, none⟩) (Kd.R_far (p := ⟨gb410, 0, none⟩) (Kd.R_mono HO_6.out (fun k_ hk => (⟨hk, hk.2⟩ : _ ∧ k_ ≠ gb410))) (fun _ hk => hk.2) (.int .i64 ((rd_T37 t404 x26_1).f0))) (fun _ hk => hk.2) (.int .i64 ((rd_T37 t404 x26_1).f1))) (fun _ hk => hk.2) (.int .i64 ((rd_T37 t404 x26_1).f2))) (fun _ hk => hk.2) (.int .i64 ((rd_T37 t404 x26_1).f3))) (fun _ h_ => h_.1))) hb); replace HO_24 := Aside0.mk (Kd.R_below (by (with_reducible repeat (first | apply Kd.R_alloc | apply Kd.R_drewN | apply Kd.R_drew)); exact (Kd.R_mono (Kd.R_far (p := ⟨gb410, 3, none⟩) (Kd.R_far (p := ⟨gb410, 2, none⟩) (Kd.R_far (p := ⟨gb410, 1, none⟩) (Kd.R_far (p := ⟨gb410, 0, none⟩) (Kd.R_mono HO_24.out (fun k_ hk => (⟨hk, hk.2⟩ : _ ∧ k_ ≠ gb410))) (fun _ hk => hk.2) (.int .i64 ((rd_T37 t404 x26_1).f0))) (fun _ hk => hk.2) (.int .i64 ((rd_T37 t404 x26_1).f1))) (fun _ hk => hk.2) (.int .i64 ((rd_T37 t404 x26_1).f2))) (fun _ hk => hk.2) (.int .i64 ((rd_T37 t404 x26_1).f3))) (fun _ h_ => h_.1))) hb); replace BK401 := Aside0.mk (blk_keepA BK401.out hb); replace BK402 := Aside0.mk (blk_keepA BK402.out hb); replace BK403 := Aside0.mk (blk_keepA BK403.out hb); replace BK410 := Aside0.mk (blk_below (g := gb410) (o := .cells #[.int .i64 ((rd_T37 t404 x26_1).f0), .int .i64 ((rd_T37 t404 x26_1).f1), .int .i64 ((rd_T37 t404 x26_1).f2), .int .i64 ((rd_T37 t404 x26_1).f3)] 37 (0, 0)) (blk_move BK410.out) hb); replace HB := Aside0.mk (below_stepA hb); (try clear hb)))
     go_roundg k1
     case measure => have := HK1.out; omega
     case rel => exact ⟨(t411), (wrap64 (x26_1 + 1)), (by first | rfl | (simp; done) | (simp [*]; done)), (by first | rfl | (simp; done) | (simp [*]; done)), H', ⟨by have := HK1.out; omega⟩, ⟨by (with_reducible repeat (first | apply Kd.R_alloc | apply Kd.R_drewN | apply Kd.R_drew)); exact Kd.R_mono HO_6.out (fun _ hk => hk.1)⟩, ⟨by (with_reducible repeat (first | apply Kd.R_alloc | apply Kd.R_drewN | apply Kd.R_drew)); exact Kd.R_mono HO_24.out (fun _ hk => hk.1)⟩, ⟨blk_move BK401.out⟩, ⟨blk_move BK402.out⟩, ⟨blk_move BK403.out⟩, ⟨by repeat (first | (with_reducible first | exact HB.out | apply below_alloc | apply pw_below_drewN | apply below_drew1 | refine below_set ?_ GE401.out | refine below_set ?_ GE402.out | refine below_set ?_ GE403.out | refine below_set ?_ GE410.out) | exact HB.out)⟩⟩
    ·
     rw [if_neg c15] at H
     have c15b0 : decide (x26_1 < (t404.length : Int)) = false := decide_eq_false c15
     clear c15
     obtain ⟨ji25, hji25⟩ : ∃ j_ : Int, (wrap64 ((t404.length : Int) - 1)) = j_ := ⟨_, rfl⟩
     replace H : (if 0 ≤ (ji25) then (if (ji25) < (t404.length : Int) then (some ((rd_T37 t404 (ji25)).f0, (rd_T37 t404 (ji25)).f1, (rd_T37 t404 (ji25)).f2, x9_1, 0)) else (none)) else (none)) = some (r1, r2, r3, r4, r5) := by first | (rw [hji25] at H; exact H) | (simp only [hji25] at H ⊢; exact H)
     have hji25w : (IntKind.i64.wrap ((t404.length : Int) - 1)) = ji25 := (i64_w _).trans hji25
     by_cases c26 : 0 ≤ (ji25)
     case neg => rw [if_neg c26] at H; exact absurd H (by simp)
     rw [if_pos c26] at H
     have c26b0 : decide (0 ≤ (ji25)) = true := decide_eq_true c26
     clear c26
     by_cases c27 : (ji25) < (t404.length : Int)
     case neg => rw [if_neg c27] at H; exact absurd H (by simp)
     rw [if_pos c27] at H
     have c27b0 : decide ((ji25) < (t404.length : Int)) = true := decide_eq_true c27
     clear c27
     simp only [Option.some.injEq, Prod.mk.injEq] at H
     obtain ⟨rfl, rfl, rfl, rfl, rfl⟩ := H
     have p412 : 0 ≤ ((ji25) : Int) := odA
     have q412 : (ji25) < (t404.length : Int) := odA
     obtain ⟨ad412, e412, hx412_0, hx412_1, hx412_2, hx412_3⟩ := at_T37 (Kd.R_reads' HO_6.out).2.2 (ji25) p412 q412
     cases e412
     replace p412 := eq_true p412
     replace q412 := eq_true q412
     go_wp2_with (first | ((with_reducible refine gate_dst (N := 12) rfl ?_); refine box_event ?hg (N := 12) ?hd (cs := #[.int .i64 0, .int .i64 0, .int .i64 0, .int .i64 0]) (t := 37) ?hr ?_; (case hd => rfl); (case hg => rfl); (case hr => first | (go_simp; done) | (go_simp; rfl)); intro gb413 hg w28 hbox hb; have BK413 := Aside0.mk (hbox); have GW413 := Aside0.mk ((by rw [hg]; exact below_sizeA : w.heap.size ≤ gb413)); have GE413 := GW413; have NB401_413 := Aside0.mk ((by rw [hg]; exact Nat.ne_of_lt (blk_ltKA BK401.out) : gb401 ≠ gb413)); have NB413_401 := Aside0.mk NB401_413.out.symm; have NB402_413 := Aside0.mk ((by rw [hg]; exact Nat.ne_of_lt (blk_ltKA BK402.out) : gb402 ≠ gb413)); have NB413_402 := Aside0.mk NB402_413.out.symm; have NB403_413 := Aside0.mk ((by rw [hg]; exact Nat.ne_of_lt (blk_ltKA BK403.out) : gb403 ≠ gb413)); have NB413_403 := Aside0.mk NB403_413.out.symm; replace HO_6 := Aside0.mk (Kd.R_below (Kd.R_elderB (by (with_reducible repeat (first | apply Kd.R_alloc | apply Kd.R_drewN | apply Kd.R_drew)); exact HO_6.out) gb413 (Nat.le_of_eq hg.symm)) hb); replace HO_24 := Aside0.mk (Kd.R_below (Kd.R_elderB (by (with_reducible repeat (first | apply Kd.R_alloc | apply Kd.R_drewN | apply Kd.R_drew)); exact HO_24.out) gb413 (Nat.le_of_eq hg.symm)) hb); replace BK401 := Aside0.mk (blk_keepA BK401.out hb); replace BK402 := Aside0.mk (blk_keepA BK402.out hb); replace BK403 := Aside0.mk (blk_keepA BK403.out hb); replace HB := Aside0.mk (below_stepA hb); clear hb hbox hg; have hnb29 := NB413_401.out; have hnc29 := NB401_413.out; have hnb30 := NB413_402.out; have hnc30 := NB402_413.out; have hnb31 := NB413_403.out; have hnc31 := NB403_413.out; have hz32 := blk4 BK413.out; have hnb33 := NB403_401.out; have hnc33 := NB401_403.out; have hnb34 := NB403_402.out; have hnc34 := NB402_403.out; have hz35 := blk4 BK403.out))
     refine bodyPost_ret (results_ct rfl _ _ gb403 37 #[.int .i64 ((rd_T37 t404 (ji25)).f0), .int .i64 ((rd_T37 t404 (ji25)).f1), .int .i64 ((rd_T37 t404 (ji25)).f2), .int .i64 x9_1] (0, 0) _ rfl (blk_move BK403.out) Try.underlying37 rfl (by kernel_rfl)) rfl ?_
     exact ⟨by first | rfl | (simp [errW_none, errW_some] <;> rfl) | (simp only [← hji25]; first | rfl | (simp [errW_none, errW_some] <;> rfl)) | (simp [*, errW_none, errW_some] <;> rfl), belowA⟩
 ·
  rw [if_neg c4] at H
  have c4b0 : (t408 == 0) = false := beq_eq_false_iff_ne.mpr c4
  have c4b1 : (t408 != 0) = true := bne_iff_ne.mpr c4
  simp only [Option.some.injEq, Prod.mk.injEq] at H
  obtain ⟨rfl, rfl, rfl, rfl, rfl⟩ := H
  go_enter Try.func15, Try.ntmps15
  go_wp2_with (first | ((with_reducible refine gate_dst (N := 2) rfl ?_); refine box_event ?hg (N := 2) ?hd (cs := #[.slice A0_0 l0_0.length c0_0, .slice A0_1 l0_1.length c0_1]) (t := 25) ?hr ?_; (case hd => rfl); (case hg => rfl); (case hr => first | (go_simp; done) | (go_simp; rfl)); intro gb401 hg w36 hbox hb; have BK401 := Aside0.mk (hbox); have GW401 := Aside0.mk ((by rw [hg]; exact below_sizeA : w.heap.size ≤ gb401)); have GE401 := GW401; replace HB := Aside0.mk (below_stepA hb); clear hb hbox hg) | ((with_reducible refine gate_dst (N := 3) rfl ?_); refine box_event ?hg (N := 3) ?hd (cs := #[.int .i64 a1_0, .int .i64 a1_1, .int .i64 a1_2, .int .i64 a1_3, .int .i64 a1_4, .int .i64 a1_5]) (t := 27) ?hr ?_; (case hd => rfl); (case hg => rfl); (case hr => first | (go_simp; done) | (go_simp; rfl)); intro gb402 hg w37 hbox hb; have BK402 := Aside0.mk (hbox); have GW402 := Aside0.mk ((by rw [hg]; exact below_sizeA : w.heap.size ≤ gb402)); have GE402 := GW402; have NB401_402 := Aside0.mk ((by rw [hg]; exact Nat.ne_of_lt (blk_ltKA BK401.out) : gb401 ≠ gb402)); have NB402_401 := Aside0.mk NB401_402.out.symm; replace BK401 := Aside0.mk (blk_keepA BK401.out hb); replace HB := Aside0.mk (below_stepA hb); clear hb hbox hg) | ((with_reducible refine gate_dst (N := 4) rfl ?_); refine box_event ?hg (N := 4) ?hd (cs := #[.int .i64 0, .int .i64 0, .int .i64 0, .int .i64 0]) (t := 37) ?hr ?_; (case hd => rfl); (case hg => rfl); (case hr => first | (go_simp; done) | (go_simp; rfl)); intro gb403 hg w38 hbox hb; have BK403 := Aside0.mk (hbox); have GW403 := Aside0.mk ((by rw [hg]; exact below_sizeA : w.heap.size ≤ gb403)); have GE403 := GW403; have NB401_403 := Aside0.mk ((by rw [hg]; exact Nat.ne_of_lt (blk_ltKA BK401.out) : gb401 ≠ gb403)); have NB403_401 := Aside0.mk NB401_403.out.symm; have NB402_403 := Aside0.mk ((by rw [hg]; exact Nat.ne_of_lt (blk_ltKA BK402.out) : gb402 ≠ gb403)); have NB403_402 := Aside0.mk NB402_403.out.symm; replace BK401 := Aside0.mk (blk_keepA BK401.out hb); replace BK402 := Aside0.mk (blk_keepA BK402.out hb); replace HB := Aside0.mk (below_stepA hb); clear hb hbox hg; have hnb39 := NB401_402.out; have hnc39 := NB402_401.out; have hnb40 := NB401_403.out; have hnc40 := NB403_401.out; have hz41 := blk2 BK401.out; have hnb42 := NB402_403.out; have hnc42 := NB403_402.out; have hz43 := blk6 BK402.out) | ((with_reducible refine gate_callee (f := 9) rfl ?_); refine goesL_ (some 16) rfl rfl Try.func9 (by kernel_rfl) rfl #[.agg #[.slice A0_0 l0_0.length c0_0, .slice A0_1 l0_1.length c0_1], .agg #[.int .i64 a1_0, .int .i64 a1_1, .int .i64 a1_2, .int .i64 a1_3, .int .i64 a1_4, .int .i64 a1_5]] rfl mapA ?_; (with_reducible refine (bounds_Analyze.calls k _ _ l0_0 _ _ l0_1 a1_0 a1_1 a1_2 a1_3 a1_4 a1_5 t404 t407 t408 _ (c_belowA HR0_0.out) HC0_0.out (c_belowA HR0_1.out) HC0_1.out A3.out).mono ?_); rintro e w44 ⟨v405, rfl, ho0, hb⟩; refine ⟨_, rfl, ?_⟩; have HO406 := Aside0.mk (Kd.R_lower (Kd.R_newB ho0 (g := gb403) (o := .cells #[.int .i64 0, .int .i64 0, .int .i64 0, .int .i64 0] 37 (0, 0)) (blk_move BK403.out)) below_sizeA); replace BK401 := Aside0.mk (blk_keepA BK401.out hb); replace BK402 := Aside0.mk (blk_keepA BK402.out hb); replace BK403 := Aside0.mk (blk_keepA BK403.out hb); replace HB := Aside0.mk (below_stepA hb); (try clear hb); (try clear ho0); have hz45 := blk4 BK403.out))
  refine bodyPost_ret (results_ct rfl _ _ gb403 37 #[.int .i64 0, .int .i64 0, .int .i64 0, .int .i64 0] (0, 0) _ rfl (blk_move BK403.out) Try.underlying37 rfl (by kernel_rfl)) rfl ?_
  exact ⟨by first | rfl | (simp [errW_none, errW_some] <;> rfl) | (simp [*, errW_none, errW_some] <;> rfl), belowA⟩

end Go.Proofs.Yteoljddobfnfiaa.PB
end
section
namespace Go.Proofs.Yteoljddobfnfiaa.PB
open Go.RowKit Go.Proofs.YteoljddobfnfiaaW.PrintWords Go.Proofs.YteoljddobfnfiaaW.PrintLast Go.Proofs.YteoljddobfnfiaaW.PrintMore
attribute [local go_sem] max2_int min2_int max_two min_two max_three min_three max_four min_four
attribute [local go_sem ↓ high] Go.Proofs.Yteoljddobfnfiaa.My.ld44_eq Go.Proofs.Yteoljddobfnfiaa.My.st44_eq Go.Proofs.Yteoljddobfnfiaa.My.ld27_eq Go.Proofs.Yteoljddobfnfiaa.My.st27_eq Go.Proofs.Yteoljddobfnfiaa.My.ld37_eq Go.Proofs.Yteoljddobfnfiaa.My.st37_eq Go.Proofs.Yteoljddobfnfiaa.My.ld65_eq Go.Proofs.Yteoljddobfnfiaa.My.st65_eq
attribute [local go_sem high] Go.Proofs.Yteoljddobfnfiaa.My.ld44_run Go.Proofs.Yteoljddobfnfiaa.My.st44_run Go.Proofs.Yteoljddobfnfiaa.My.ld27_run Go.Proofs.Yteoljddobfnfiaa.My.st27_run Go.Proofs.Yteoljddobfnfiaa.My.ld37_run Go.Proofs.Yteoljddobfnfiaa.My.st37_run Go.Proofs.Yteoljddobfnfiaa.My.ld65_run Go.Proofs.Yteoljddobfnfiaa.My.st65_run
open Go.Proofs.Yteoljddobfnfiaa.My
attribute [local go_sem] cell_map run_store_fnV one_int one_bool one_string one_slice one_fnV
set_option linter.unusedVariables false
set_option linter.unusedSimpArgs false

mutual
def errataref20_Total.j0 : Nat → List (S37) → Int → Bool → Option (Int × Int × Int × Int × Int)
  | 0, _, _, _ => none
  | k + 1, x6, x8, x24 => if x24 = true then (some (0, 0, 0, 0, x8)) else (if 0 ≤ (wrap64 ((x6.length : Int) - 1)) then (if (wrap64 ((x6.length : Int) - 1)) < (x6.length : Int) then (errataref20_Total.l0 k x6 0 ((rd_T37 x6 (wrap64 ((x6.length : Int) - 1))).f0) ((rd_T37 x6 (wrap64 ((x6.length : Int) - 1))).f1) ((rd_T37 x6 (wrap64 ((x6.length : Int) - 1))).f2) 0) else (none)) else (none))
def errataref20_Total.l0 : Nat → List (S37) → Int → Int → Int → Int → Int → Option (Int × Int × Int × Int × Int)
  | 0, _, _, _, _, _, _ => none
  | k + 1, x6, x10, x424000, x424001, x424002, x424003 => if x10 < (x6.length : Int) then (if 0 ≤ x10 then (errataref20_Total.l0 k x6 (wrap64 (x10 + 1)) x424000 x424001 x424002 (mn (wrap64 (x424003 + ((rd_T37 x6 x10).f3))) 1099511627776)) else (none)) else (some (x424000, x424001, x424002, x424003, 0))
end
def errataref20_Total.f (k : Nat) (l0_0 : List (S95)) (l0_1 : List (S44)) (a1_0 : Int) (a1_1 : Int) (a1_2 : Int) (a1_3 : Int) (a1_4 : Int) (a1_5 : Int) : Option (Int × Int × Int × Int × Int) := (errataref20_Analyze.f k l0_0 l0_1 a1_0 a1_1 a1_2 a1_3 a1_4 a1_5).bind fun bt417 => (if bt417.2.2 = 0 then (errataref20_Total.j0 k bt417.1 bt417.2.2 ((bt417.1.length : Int) == 0)) else (errataref20_Total.j0 k bt417.1 bt417.2.2 true))
def errataref20_Total.T9 : Bool × List (List Nat × List Nat) := (true, [([], []), ([0], [0]), ([], []), ([], []), ([2, 3], [2, 3]), ([4], [4]), ([5], [5]), ([1, 6], [1, 6]), ([7], [7]), ([0, 1, 2, 3, 4, 5, 6, 7, 8], []), ([9, 8, 0, 1, 2, 3, 4, 5, 6, 7, 8], [8, 9])])
def errataref20_Total.B9 : List Nat := [0, 1, 0, 0, 12, 28, 60, 127, 255, 511, 1023]
theorem errataref20_Total.tab9 : rtab .any (opsOf Try.f16 9) = errataref20_Total.T9 := by kernel_rfl
theorem errataref20_Total.bits9 : waitsOk errataref20_Total.T9.2 errataref20_Total.B9 = true := by kernel_rfl
set_option maxHeartbeats 8000000 in
set_option maxRecDepth 100000 in
theorem errataref20_Total.calls (k : Nat) (A0_0 : Option Addr) (c0_0 : Nat) (l0_0 : List (S95)) (A0_1 : Option Addr) (c0_1 : Nat) (l0_1 : List (S44)) (a1_0 : Int) (a1_1 : Int) (a1_2 : Int) (a1_3 : Int) (a1_4 : Int) (a1_5 : Int) (r1 : Int) (r2 : Int) (r3 : Int) (r4 : Int) (r5 : Int) (w : World) (hr0_0 : Kd.C k95 w A0_0 l0_0.length l0_0) (hc0_0 : l0_0.length ≤ c0_0) (hr0_1 : Kd.C k44 w A0_1 l0_1.length l0_1) (hc0_1 : l0_1.length ≤ c0_1) (h : errataref20_Total.f k l0_0 l0_1 a1_0 a1_1 a1_2 a1_3 a1_4 a1_5 = some (r1, r2, r3, r4, r5)) :
    Calls Try.prog 16 #[.agg #[.slice A0_0 l0_0.length c0_0, .slice A0_1 l0_1.length c0_1], .agg #[.int .i64 a1_0, .int .i64 a1_1, .int .i64 a1_2, .int .i64 a1_3, .int .i64 a1_4, .int .i64 a1_5]] w fun e w' => e = .returned (.tuple #[.agg #[.int .i64 r1, .int .i64 r2, .int .i64 r3, .int .i64 r4], .int .i64 r5]) ∧ Below w.heap.size w w' := by
 have hu25 := Try.underlying25
 have hu27 := Try.underlying27
 have hu37 := Try.underlying37
 have HR0_0 := Aside0.mk hr0_0
 have HC0_0 := Aside0.mk hc0_0
 clear hr0_0 hc0_0
 have HR0_1 := Aside0.mk hr0_1
 have HC0_1 := Aside0.mk hc0_1
 clear hr0_1 hc0_1
 have HB := Aside0.mk (Below.refl w.heap.size w)
 have H : ((errataref20_Analyze.f k l0_0 l0_1 a1_0 a1_1 a1_2 a1_3 a1_4 a1_5).bind fun bt417 => (if bt417.2.2 = 0 then (errataref20_Total.j0 k bt417.1 bt417.2.2 ((bt417.1.length : Int) == 0)) else (errataref20_Total.j0 k bt417.1 bt417.2.2 true))) = some (r1, r2, r3, r4, r5) := h
 clear h
 replace H := Option.bind_eq_some_iff.mp H
 obtain ⟨⟨t417, t420, t421⟩, A30, H⟩ := H
 try dsimp only at H
 have A3 := Aside0.mk A30
 clear A30
 have HC4 := Aside0.mk H
 clear H
 go_enter Try.func16, Try.ntmps16
 go_upto_region 2 with (first | ((with_reducible refine gate_dst (N := 2) rfl ?_); (try (refine gate_guard (by rfl) ?_; dsimp only)); refine box_event ?hg (N := 2) ?hd (cs := #[.slice A0_0 l0_0.length c0_0, .slice A0_1 l0_1.length c0_1]) (t := 25) ?hr ?_; (case hd => rfl); (case hg => rfl); (case hr => first | (go_simp; done) | (go_simp; rfl)); intro gb414 hg w5 hbox hb; have BK414 := Aside0.mk (hbox); have GW414 := Aside0.mk ((by rw [hg]; exact below_sizeA : w.heap.size ≤ gb414)); have GE414 := GW414; replace HB := Aside0.mk (below_stepA hb); clear hb hbox hg) | ((with_reducible refine gate_dst (N := 3) rfl ?_); (try (refine gate_guard (by rfl) ?_; dsimp only)); refine box_event ?hg (N := 3) ?hd (cs := #[.int .i64 a1_0, .int .i64 a1_1, .int .i64 a1_2, .int .i64 a1_3, .int .i64 a1_4, .int .i64 a1_5]) (t := 27) ?hr ?_; (case hd => rfl); (case hg => rfl); (case hr => first | (go_simp; done) | (go_simp; rfl)); intro gb415 hg w6 hbox hb; have BK415 := Aside0.mk (hbox); have GW415 := Aside0.mk ((by rw [hg]; exact below_sizeA : w.heap.size ≤ gb415)); have GE415 := GW415; have NB414_415 := Aside0.mk ((by rw [hg]; exact Nat.ne_of_lt (blk_ltKA BK414.out) : gb414 ≠ gb415)); have NB415_414 := Aside0.mk NB414_415.out.symm; replace BK414 := Aside0.mk (blk_keepA BK414.out hb); replace HB := Aside0.mk (below_stepA hb); clear hb hbox hg) | ((with_reducible refine gate_dst (N := 4) rfl ?_); (try (refine gate_guard (by rfl) ?_; dsimp only)); refine box_event ?hg (N := 4) ?hd (cs := #[.int .i64 0, .int .i64 0, .int .i64 0, .int .i64 0]) (t := 37) ?hr ?_; (case hd => rfl); (case hg => rfl); (case hr => first | (go_simp; done) | (go_simp; rfl)); intro gb416 hg w7 hbox hb; have BK416 := Aside0.mk (hbox); have GW416 := Aside0.mk ((by rw [hg]; exact below_sizeA : w.heap.size ≤ gb416)); have GE416 := GW416; have NB414_416 := Aside0.mk ((by rw [hg]; exact Nat.ne_of_lt (blk_ltKA BK414.out) : gb414 ≠ gb416)); have NB416_414 := Aside0.mk NB414_416.out.symm; have NB415_416 := Aside0.mk ((by rw [hg]; exact Nat.ne_of_lt (blk_ltKA BK415.out) : gb415 ≠ gb416)); have NB416_415 := Aside0.mk NB415_416.out.symm; replace BK414 := Aside0.mk (blk_keepA BK414.out hb); replace BK415 := Aside0.mk (blk_keepA BK415.out hb); replace HB := Aside0.mk (below_stepA hb); clear hb hbox hg; have hnb8 := NB414_415.out; have hnc8 := NB415_414.out; have hnb9 := NB414_416.out; have hnc9 := NB416_414.out; have hz10 := blk2 BK414.out; have hnb11 := NB415_416.out; have hnc11 := NB416_415.out; have hz12 := blk6 BK415.out) | ((with_reducible refine gate_callee (f := 14) rfl ?_); refine goesL_ (some 14) rfl rfl Try.func14 (by kernel_rfl) rfl #[.agg #[.slice A0_0 l0_0.length c0_0, .slice A0_1 l0_1.length c0_1], .agg #[.int .i64 a1_0, .int .i64 a1_1, .int .i64 a1_2, .int .i64 a1_3, .int .i64 a1_4, .int .i64 a1_5]] rfl mapA ?_; (with_reducible refine (errataref20_Analyze.calls k _ _ l0_0 _ _ l0_1 a1_0 a1_1 a1_2 a1_3 a1_4 a1_5 t417 t420 t421 _ (c_belowA HR0_0.out) HC0_0.out (c_belowA HR0_1.out) HC0_1.out A3.out).mono ?_); rintro e w13 ⟨v418, rfl, ho0, hb⟩; refine ⟨_, rfl, ?_⟩; have HO419 := Aside0.mk (Kd.R_lower (Kd.R_newB ho0 (g := gb416) (o := .cells #[.int .i64 0, .int .i64 0, .int .i64 0, .int .i64 0] 37 (0, 0)) (blk_move BK416.out)) below_sizeA); replace BK414 := Aside0.mk (blk_keepA BK414.out hb); replace BK415 := Aside0.mk (blk_keepA BK415.out hb); replace BK416 := Aside0.mk (blk_keepA BK416.out hb); replace HB := Aside0.mk (below_stepA hb); (try clear hb); (try clear ho0)))
 (try simp only [Act.put, List.setIfInBounds_toArray, List.set_cons_zero, List.set_cons_succ])
 go_cut [24] (fun v24 wc => ∃ (kq : Nat) (x24_3 : Bool), v24 = .bool x24_3 ∧ Aside0 (errataref20_Total.j0 kq t417 t421 x24_3 = some (r1, r2, r3, r4, r5)) ∧ Aside0 (kq ≤ k) ∧ Aside0 (Kd.R k37 37 wc w.heap.size (fun k_ => k_ ≠ gb416) v418 t417) ∧ Aside0 (wc.heap[gb414]? = some (.cells #[(.slice A0_0 l0_0.length c0_0), (.slice A0_1 l0_1.length c0_1)] 25 (0, 0))) ∧ Aside0 (wc.heap[gb415]? = some (.cells #[.int .i64 a1_0, .int .i64 a1_1, .int .i64 a1_2, .int .i64 a1_3, .int .i64 a1_4, .int .i64 a1_5] 27 (0, 0))) ∧ Aside0 (wc.heap[gb416]? = some (.cells #[.int .i64 0, .int .i64 0, .int .i64 0, .int .i64 0] 37 (0, 0))) ∧ Aside0 (Below w.heap.size w wc))
 case first =>
  have H := HC4.out
  clear HC4
  by_cases c14 : t421 = 0
  ·
   rw [if_pos c14] at H
   have c14b0 : (t421 == 0) = true := beq_iff_eq.mpr c14
   have c14b1 : (t421 != 0) = false := bne_eq_false_iff_eq.mpr c14
   clear c14
   (first | rw [c14b0] | (simp only [i64_w, i32_w]; rw [c14b0]) | skip)
   have H' := Aside0.mk H
   clear H
   obtain ⟨Ao15, co15, eo15⟩ := Kd.R_slice HO419.out
   subst eo15
   go_wp2
   go_meet
   case rel => exact ⟨_, (((t417.length : Int) == 0)), (by first | rfl | (simp; done) | (simp [*]; done)), H', ⟨by first | omega | exact Nat.le_refl _⟩, ⟨by (with_reducible repeat (first | apply Kd.R_alloc | apply Kd.R_drewN | apply Kd.R_drew)); exact Kd.R_mono HO419.out (fun _ hk => hk.2)⟩, ⟨blk_move BK414.out⟩, ⟨blk_move BK415.out⟩, ⟨blk_move BK416.out⟩, ⟨by repeat (first | (with_reducible first | exact HB.out | apply below_alloc | apply pw_below_drewN | apply below_drew1 | refine below_set ?_ GE414.out | refine below_set ?_ GE415.out | refine below_set ?_ GE416.out) | exact HB.out)⟩⟩
  ·
   rw [if_neg c14] at H
   have c14b0 : (t421 == 0) = false := beq_eq_false_iff_ne.mpr c14
   have c14b1 : (t421 != 0) = true := bne_iff_ne.mpr c14
   (first | rw [c14b0] | (simp only [i64_w, i32_w]; rw [c14b0]) | skip)
   have H' := Aside0.mk H
   clear H
   go_wp2
   go_meet
   case rel => exact ⟨_, (true), (by first | rfl | (simp; done) | (simp [*]; done)), H', ⟨by first | omega | exact Nat.le_refl _⟩, ⟨by (with_reducible repeat (first | apply Kd.R_alloc | apply Kd.R_drewN | apply Kd.R_drew)); exact Kd.R_mono HO419.out (fun _ hk => hk.2)⟩, ⟨blk_move BK414.out⟩, ⟨blk_move BK415.out⟩, ⟨blk_move BK416.out⟩, ⟨by repeat (first | (with_reducible first | exact HB.out | apply below_alloc | apply pw_below_drewN | apply below_drew1 | refine below_set ?_ GE414.out | refine below_set ?_ GE415.out | refine below_set ?_ GE416.out) | exact HB.out)⟩⟩
 case rest =>
  clear HC4
  try clear c1
  try clear p2
  try clear c8
  try clear c9
  try clear c11
  try clear c14
  try clear c14b0
  try clear c14b1
  try clear hz10
  try clear hz12
  obtain ⟨kq, x24_3, rfl, HA, HJ3, HO_6, BK414, BK415, BK416, HB⟩ := hcut
  cases kq with
  | zero => exact absurd HA.out (by simp [errataref20_Total.j0])
  | succ kj3 =>
   have H := HA.out
   clear HA
   simp only [errataref20_Total.j0] at H
   by_cases c16 : x24_3 = true
   ·
    subst c16
    rw [if_pos rfl] at H
    simp only [Option.some.injEq, Prod.mk.injEq] at H
    obtain ⟨rfl, rfl, rfl, rfl, rfl⟩ := H
    have hnb17 := NB416_414.out
    have hnc17 := NB414_416.out
    have hnb18 := NB416_415.out
    have hnc18 := NB415_416.out
    have hz19 := blk4 BK416.out
    go_wp2
    refine bodyPost_ret (results_ct rfl _ _ gb416 37 #[.int .i64 0, .int .i64 0, .int .i64 0, .int .i64 0] (0, 0) _ rfl (blk_move BK416.out) Try.underlying37 rfl (by kernel_rfl)) rfl ?_
    exact ⟨by first | rfl | (simp [errW_none, errW_some] <;> rfl) | (simp [*, errW_none, errW_some] <;> rfl), belowA⟩
   ·
    replace c16 := Bool.eq_false_iff.mpr c16
    subst c16
    rw [if_neg (show ¬ (false = true) by decide)] at H
    obtain ⟨ji20, hji20⟩ : ∃ j_ : Int, (wrap64 ((t417.length : Int) - 1)) = j_ := ⟨_, rfl⟩
    replace H : (if 0 ≤ (ji20) then (if (ji20) < (t417.length : Int) then (errataref20_Total.l0 kj3 t417 0 ((rd_T37 t417 (ji20)).f0) ((rd_T37 t417 (ji20)).f1) ((rd_T37 t417 (ji20)).f2) 0) else (none)) else (none)) = some (r1, r2, r3, r4, r5) := by first | (rw [hji20] at H; exact H) | (simp only [hji20] at H ⊢; exact H)
    have hji20w : (IntKind.i64.wrap ((t417.length : Int) - 1)) = ji20 := (i64_w _).trans hji20
    by_cases c21 : 0 ≤ (ji20)
    case neg => rw [if_neg c21] at H; exact absurd H (by simp)
    rw [if_pos c21] at H
    have c21b0 : decide (0 ≤ (ji20)) = true := decide_eq_true c21
    clear c21
    by_cases c22 : (ji20) < (t417.length : Int)
    case neg => rw [if_neg c22] at H; exact absurd H (by simp)
    rw [if_pos c22] at H
    have c22b0 : decide ((ji20) < (t417.length : Int)) = true := decide_eq_true c22
    clear c22
    have H' := Aside0.mk H
    clear H
    obtain ⟨Ao23, co23, eo23⟩ := Kd.R_slice HO_6.out
    subst eo23
    have p422 : 0 ≤ ((ji20) : Int) := odA
    have q422 : (ji20) < (t417.length : Int) := odA
    obtain ⟨ad422, e422, hx422_0, hx422_1, hx422_2, hx422_3⟩ := at_T37 (Kd.R_reads' HO_6.out).2.2 (ji20) p422 q422
    cases e422
    replace p422 := eq_true p422
    replace q422 := eq_true q422
    go_wp2_with (first | ((with_reducible refine gate_dst (N := 9) rfl ?_); (try (refine gate_guard (by rfl) ?_; dsimp only)); refine box_event ?hg (N := 9) ?hd (cs := #[.int .i64 0, .int .i64 0, .int .i64 0, .int .i64 0]) (t := 37) ?hr ?_; (case hd => rfl); (case hg => rfl); (case hr => first | (go_simp; done) | (go_simp; rfl)); intro gb423 hg w24 hbox hb; have BK423 := Aside0.mk (hbox); have GW423 := Aside0.mk ((by rw [hg]; exact below_sizeA : w.heap.size ≤ gb423)); have GE423 := GW423; have NB414_423 := Aside0.mk ((by rw [hg]; exact Nat.ne_of_lt (blk_ltKA BK414.out) : gb414 ≠ gb423)); have NB423_414 := Aside0.mk NB414_423.out.symm; have NB415_423 := Aside0.mk ((by rw [hg]; exact Nat.ne_of_lt (blk_ltKA BK415.out) : gb415 ≠ gb423)); have NB423_415 := Aside0.mk NB415_423.out.symm; have NB416_423 := Aside0.mk ((by rw [hg]; exact Nat.ne_of_lt (blk_ltKA BK416.out) : gb416 ≠ gb423)); have NB423_416 := Aside0.mk NB416_423.out.symm; replace HO_6 := Aside0.mk (Kd.R_below (Kd.R_elderB (by (with_reducible repeat (first | apply Kd.R_alloc | apply Kd.R_drewN | apply Kd.R_drew)); exact HO_6.out) gb423 (Nat.le_of_eq hg.symm)) hb); replace BK414 := Aside0.mk (blk_keepA BK414.out hb); replace BK415 := Aside0.mk (blk_keepA BK415.out hb); replace BK416 := Aside0.mk (blk_keepA BK416.out hb); replace HB := Aside0.mk (below_stepA hb); clear hb hbox hg; have hnb25 := NB423_414.out; have hnc25 := NB414_423.out; have hnb26 := NB423_415.out; have hnc26 := NB415_423.out; have hnb27 := NB423_416.out; have hnc27 := NB416_423.out; have hz28 := blk4 BK423.out))
    go_loopg [10] kj3 (fun kq v10 w' => ∃ (x10_2 : Int) (x424003_2 : Int), v10 = .int .i64 x10_2 ∧ Aside0 (errataref20_Total.l0 kq t417 x10_2 ((rd_T37 t417 (ji20)).f0) ((rd_T37 t417 (ji20)).f1) ((rd_T37 t417 (ji20)).f2) x424003_2 = some (r1, r2, r3, r4, r5)) ∧ Aside0 (kq ≤ kj3) ∧ Aside0 (Kd.R k37 37 w' w.heap.size (fun k_ => k_ ≠ gb416 ∧ k_ ≠ gb423) (.slice (some ad422) t417.length co23) t417) ∧ Aside0 (w'.heap[gb414]? = some (.cells #[(.slice A0_0 l0_0.length c0_0), (.slice A0_1 l0_1.length c0_1)] 25 (0, 0))) ∧ Aside0 (w'.heap[gb415]? = some (.cells #[.int .i64 a1_0, .int .i64 a1_1, .int .i64 a1_2, .int .i64 a1_3, .int .i64 a1_4, .int .i64 a1_5] 27 (0, 0))) ∧ Aside0 (w'.heap[gb416]? = some (.cells #[.int .i64 0, .int .i64 0, .int .i64 0, .int .i64 0] 37 (0, 0))) ∧ Aside0 (w'.heap[gb423]? = some (.cells #[.int .i64 ((rd_T37 t417 (ji20)).f0), .int .i64 ((rd_T37 t417 (ji20)).f1), .int .i64 ((rd_T37 t417 (ji20)).f2), .int .i64 x424003_2] 37 (0, 0))) ∧ Aside0 (Below w.heap.size w w'))
    case atStart => exact ⟨(0), (0), (by first | rfl | (simp; done) | (simp [*]; done)), H', ⟨Nat.le_refl _⟩, ⟨by (with_reducible repeat (first | apply Kd.R_alloc | apply Kd.R_drewN | apply Kd.R_drew)); exact Kd.R_mono (Kd.R_far (p := ⟨gb423, 3, none⟩) (Kd.R_far (p := ⟨gb423, 3, none⟩) (Kd.R_far (p := ⟨gb423, 2, none⟩) (Kd.R_far (p := ⟨gb423, 1, none⟩) (Kd.R_far (p := ⟨gb423, 0, none⟩) (Kd.R_mono HO_6.out (fun k_ hk => (⟨hk, hk.2⟩ : _ ∧ k_ ≠ gb423))) (fun _ hk => hk.2) (.int .i64 ((rd_T37 t417 (ji20)).f0))) (fun _ hk => hk.2) (.int .i64 ((rd_T37 t417 (ji20)).f1))) (fun _ hk => hk.2) (.int .i64 ((rd_T37 t417 (ji20)).f2))) (fun _ hk => hk.2) (.int .i64 ((rd_T37 t417 (ji20)).f3))) (fun _ hk => hk.2) (.int .i64 0)) (fun _ hk => ⟨hk.1.1, hk.1.2⟩)⟩, ⟨blk_move BK414.out⟩, ⟨blk_move BK415.out⟩, ⟨blk_move BK416.out⟩, ⟨blk_move BK423.out⟩, ⟨by repeat (first | (with_reducible first | exact HB.out | apply below_alloc | apply pw_below_drewN | apply below_drew1 | refine below_set ?_ GE414.out | refine below_set ?_ GE415.out | refine below_set ?_ GE416.out | refine below_set ?_ GE423.out) | exact HB.out)⟩⟩
    case round =>
     clear H'
     try clear c1
     try clear c2
     try clear p2
     try clear p4
     try clear q4
     try clear hx4
     try clear p6
     try clear c8
     try clear c9
     try clear c11
     try clear c14
     try clear c14b0
     try clear c14b1
     try clear c16
     try clear c17
     try clear c18
     try clear c21
     try clear c21b0
     try clear c22
     try clear c22b0
     try clear c25
     try clear c26
     try clear c27
     try clear hz10
     try clear hz12
     try clear hz19
     try clear hz28
     try clear hx422_0
     try clear hx422_1
     try clear hx422_2
     try clear hx422_3
     try clear p2
     try clear p422
     try clear q422
     obtain ⟨x10_2, x424003_2, rfl, HA, HK2, HO_6, BK414, BK415, BK416, BK423, HB⟩ := hrel
     cases gk with
     | zero => exact absurd HA.out (by simp [errataref20_Total.l0])
     | succ k2 =>
      have H := HA.out
      clear HA
      simp only [errataref20_Total.l0] at H
      by_cases c29 : x10_2 < (t417.length : Int)
      ·
       rw [if_pos c29] at H
       have c29b0 : decide (x10_2 < (t417.length : Int)) = true := decide_eq_true c29
       clear c29
       by_cases c30 : 0 ≤ x10_2
       case neg => rw [if_neg c30] at H; exact absurd H (by simp)
       rw [if_pos c30] at H
       have c30b0 : decide (0 ≤ x10_2) = true := decide_eq_true c30
       clear c30
       obtain ⟨ji31, hji31⟩ : ∃ j_ : Int, (mn (wrap64 (x424003_2 + ((rd_T37 t417 x10_2).f3))) 1099511627776) = j_ := ⟨_, rfl⟩
       replace H : (errataref20_Total.l0 k2 t417 (wrap64 (x10_2 + 1)) ((rd_T37 t417 (ji20)).f0) ((rd_T37 t417 (ji20)).f1) ((rd_T37 t417 (ji20)).f2) ji31) = some (r1, r2, r3, r4, r5) := by first | (rw [hji31] at H; exact H) | (simp only [hji31] at H ⊢; exact H)
       have hji31_ : (if 1099511627776 < (wrap64 (x424003_2 + ((rd_T37 t417 x10_2).f3))) then 1099511627776 else (wrap64 (x424003_2 + ((rd_T37 t417 x10_2).f3)))) = ji31 := hji31
       have H' := Aside0.mk H
       clear H
       try go_wp2
       have n0_ := Aside0.mk (Kd.R_drew HO_6.out)
       have n1_ := Aside0.mk (blk_drew BK414.out)
       have n2_ := Aside0.mk (blk_drew BK415.out)
       have n3_ := Aside0.mk (blk_drew BK416.out)
       have n4_ := Aside0.mk (blk_drew BK423.out)
       have n5_ := Aside0.mk (below_drew1 HB.out)
       clear HO_6
       clear BK414
       clear BK415
       clear BK416
       clear BK423
       clear HB
       have HO_6 := n0_
       have BK414 := n1_
       have BK415 := n2_
       have BK416 := n3_
       have BK423 := n4_
       have HB := n5_
       clear n0_ n1_ n2_ n3_ n4_ n5_
       have p424 : 0 ≤ (x10_2 : Int) := odA
       have q424 : x10_2 < (t417.length : Int) := odA
       obtain ⟨ad424, e424, hx424_0, hx424_1, hx424_2, hx424_3⟩ := at_T37 (Kd.R_reads' HO_6.out).2.2 x10_2 p424 q424
       obtain rfl : ad422 = ad424 := (by injection e424)
       replace p424 := eq_true p424
       replace q424 := eq_true q424
       refine start_ (n := 11) (S := fun w' => w'.cell? ⟨gb423, 0, none⟩ = some (.int .i64 ((rd_T37 t417 (ji20)).f0)) ∧ w'.cell? ⟨gb423, 1, none⟩ = some (.int .i64 ((rd_T37 t417 (ji20)).f1)) ∧ w'.cell? ⟨gb423, 2, none⟩ = some (.int .i64 ((rd_T37 t417 (ji20)).f2)) ∧ w'.cell? ⟨gb423, 3, none⟩ = some (.int .i64 x424003_2) ∧ w'.cell? (ad422.add ((x10_2).toNat * 4)) = some (.int .i64 ((rd_T37 t417 x10_2).f0)) ∧ w'.cell? ⟨(ad422.add ((x10_2).toNat * 4)).block, (ad422.add ((x10_2).toNat * 4)).off + 1, none⟩ = some (.int .i64 ((rd_T37 t417 x10_2).f1)) ∧ w'.cell? ⟨(ad422.add ((x10_2).toNat * 4)).block, (ad422.add ((x10_2).toNat * 4)).off + 2, none⟩ = some (.int .i64 ((rd_T37 t417 x10_2).f2)) ∧ w'.cell? ⟨(ad422.add ((x10_2).toNat * 4)).block, (ad422.add ((x10_2).toNat * 4)).off + 3, none⟩ = some (.int .i64 ((rd_T37 t417 x10_2).f3))) (ds := [10]) #[O,O,O,O,O,O,O,O,O,O,O] (by kernel_rfl) rfl rfl ⟨(blk_cell BK423.out 0).trans rfl, (blk_cell BK423.out 1).trans rfl, (blk_cell BK423.out 2).trans rfl, (blk_cell BK423.out 3).trans rfl, hx424_0, hx424_1, hx424_2, hx424_3⟩ (fun hHeld => ?_); refine with_tabW errataref20_Total.tab9 errataref20_Total.bits9 (fun HT_ HW_ => ?_)
       generalize wr.drew = w32 at HO_6 BK414 BK415 BK416 BK423 HB hx424_0 hx424_1 hx424_2 hx424_3 hHeld ⊢
       refine pureA 0 40 #[J,O,O,O,O,O,O,O,O,O,O] ?_
       refine pureA 2 42 #[J,O,J,O,O,O,O,O,O,O,O] ?_
       refine pureA 3 43 #[J,O,J,J,O,O,O,O,O,O,O] ?_
       refine pureA 4 44 #[J,O,J,J,J,O,O,O,O,O,O] ?_
       refine pureA 5 45 #[J,O,J,J,J,J,O,O,O,O,O] ?_
       refine takeA 1 41 #[J,J,J,J,J,J,O,O,O,O,O] ?_
       refine takeA 6 46 #[J,J,J,J,J,J,J,O,O,O,O] ?_
       refine pureA 7 47 #[J,J,J,J,J,J,J,J,O,O,O] ?_
       refine pureA 8 48 #[J,J,J,J,J,J,J,J,J,O,O] ?_
       refine pureA 9 49 #[J,J,J,J,J,J,J,J,J,J,O] ?_
       refine last_ (i := 10) (N := none) #[J,J,J,J,J,J,J,J,J,J,J] rfl rfl (one_of HT_.out (by kernel_rfl)) (by decide) (fun K hK => ?_)
       have hs33 : w32.cell? ⟨gb423, 3, none⟩ = some (.int .i64 x424003_2) := (blk_cell BK423.out 3).trans rfl
       have hfs33 := blk_frozen BK423.out 3
       have hns33_0 := NB414_423.out
       have hns33_1 := NB415_423.out
       have hns33_2 := NB416_423.out
       have hms33_0 := NB423_414.out
       have hms33_1 := NB423_415.out
       have hms33_2 := NB423_416.out
       refine skip_ (w1 := ?_) (by rfl) rfl ?_ ?_
       rotate_left
       ·
        go_simp
        rfl
       refine hK.out _ _ ?_
       clear hK K
       refine done_ (done_of HT_.out (by kernel_rfl)) ?_
       try go_wp2
       go_roundg k2
       case measure => have := HJ3.out; have := HK2.out; omega
       case rel => exact ⟨(wrap64 (x10_2 + 1)), (ji31), (by first | rfl | (simp; done) | (simp [*]; done)), H', ⟨by have := HJ3.out; have := HK2.out; omega⟩, ⟨by (with_reducible repeat (first | apply Kd.R_alloc | apply Kd.R_drewN | apply Kd.R_drew)); exact Kd.R_mono (Kd.R_far (p := ⟨gb423, 3, none⟩) (Kd.R_mono HO_6.out (fun k_ hk => (⟨hk, hk.2⟩ : _ ∧ k_ ≠ gb423))) (fun _ hk => hk.2) (.int .i64 ji31)) (fun _ hk => ⟨hk.1.1, hk.1.2⟩)⟩, ⟨blk_move BK414.out⟩, ⟨blk_move BK415.out⟩, ⟨blk_move BK416.out⟩, ⟨blk_move BK423.out⟩, ⟨by repeat (first | (with_reducible first | exact HB.out | apply below_alloc | apply pw_below_drewN | apply below_drew1 | refine below_set ?_ GE414.out | refine below_set ?_ GE415.out | refine below_set ?_ GE416.out | refine below_set ?_ GE423.out) | exact HB.out)⟩⟩
      ·
       rw [if_neg c29] at H
       have c29b0 : decide (x10_2 < (t417.length : Int)) = false := decide_eq_false c29
       clear c29
       simp only [Option.some.injEq, Prod.mk.injEq] at H
       obtain ⟨rfl, rfl, rfl, rfl, rfl⟩ := H
       have hnb34 := NB423_414.out
       have hnc34 := NB414_423.out
       have hnb35 := NB423_415.out
       have hnc35 := NB415_423.out
       have hnb36 := NB423_416.out
       have hnc36 := NB416_423.out
       have hz37 := blk4 BK423.out
       have hnb38 := NB416_414.out
       have hnc38 := NB414_416.out
       have hnb39 := NB416_415.out
       have hnc39 := NB415_416.out
       have hz40 := blk4 BK416.out
       go_wp2
       refine bodyPost_ret (results_ct rfl _ _ gb416 37 #[.int .i64 ((rd_T37 t417 (ji20)).f0), .int .i64 ((rd_T37 t417 (ji20)).f1), .int .i64 ((rd_T37 t417 (ji20)).f2), .int .i64 x424003_2] (0, 0) _ rfl (blk_move BK416.out) Try.underlying37 rfl (by kernel_rfl)) rfl ?_
       exact ⟨by first | rfl | (simp [errW_none, errW_some] <;> rfl) | (simp only [← hji20]; first | rfl | (simp [errW_none, errW_some] <;> rfl)) | (simp [*, errW_none, errW_some] <;> rfl), belowA⟩

end Go.Proofs.Yteoljddobfnfiaa.PB
end
section
namespace Go.Proofs.Yteoljddobfnfiaa.Pure
open Go.RowKit Go.Proofs.YteoljddobfnfiaaW.PrintWords Go.Proofs.YteoljddobfnfiaaW.PrintLast Go.Proofs.YteoljddobfnfiaaW.PrintMore Go.Proofs.Yteoljddobfnfiaa.PB
set_option linter.unusedVariables false
set_option linter.unusedSimpArgs false

theorem rAna_l1 {i c0 c1 c2 c3 c4 c5 : Int} {bs : List S37} (l : List S44) (F : List S95) (n : S44) (hn : okNode i n = true) (h : pre i bs) (hi : 0 ≤ i ∧ i ≤ 40) (r s : Int) (R : List S37 × Int × Int)
    (hR : Ev (fun k => if r ≥ 1099511627776 then (some (([] : List (S37)), i, 14)) else (if s ≥ 1099511627776 then (some (([] : List (S37)), i, 14)) else (errataref20_Analyze.l0 k (bs ++ [(⟨backOf bs n.f1 0 + ownB n, foreOf bs n.f1 0 + ownF n, r, s⟩ : S37)]) (i + 1) F l c0 c1 c2 c3 c4 c5))) R) :
    ∀ d j : Nat, j + d = n.f1.length → ∀ b f : Int, (0 ≤ b ∧ b ≤ 10000 * i) → (0 ≤ f ∧ f ≤ 10000 * i) → backOf bs (n.f1.drop j) b = backOf bs n.f1 0 → foreOf bs (n.f1.drop j) f = foreOf bs n.f1 0 →
    Ev (fun k => errataref20_Analyze.l1 k bs i (ownB n) (ownF n) (j : Int) F l c0 c1 c2 c3 c4 c5 n.f0 n.f1 n.f2 n.f3 n.f4 n.f5 n.f6 n.f7 n.f8 n.f9 n.f10 n.f11 n.f12 n.f13 n.f14 n.f15 b f r s) R
  | 0, j, hj, b, f, hb, hf, eb, ef => by
    rw [List.drop_of_length_le (by omega)] at eb ef
    have w := own_range n
    have hlb : bs.length < 4398046511104 := by have := h.1; omega
    refine Ev.step (fun k => ?_) hR
    simp only [errataref20_Analyze.l1]
    rw [if_neg (by omega), if_pos hlb, wrap_id (n := b + ownB n) (by omega) (by omega), wrap_id (n := f + ownF n) (by omega) (by omega), wrap_id (n := i + 1) (by omega) (by omega), ← eb, ← ef]
    rfl
  | d + 1, j, hj, b, f, hb, hf, eb, ef => by
    obtain ⟨hop, hin, hl⟩ := node_ins hn
    have hjl : j < n.f1.length := by omega
    have e : n.f1.drop j = n.f1[j] :: n.f1.drop (j + 1) := List.drop_eq_getElem_cons hjl
    have hx := okIn_mem hl (List.getElem_mem hjl)
    have hk := pre_at h hx.1 hx.2
    have il := ins_le n.f0
    rw [e] at eb ef
    have ih := rAna_l1 l F n hn h hi r s R hR d (j + 1) (by omega) (mx b (rd_T37 bs n.f1[j]).f0) (mx f (rd_T37 bs n.f1[j]).f1) ⟨le_mx hb.1, mx_le hb.2 hk.1.2⟩ ⟨le_mx hf.1, mx_le hf.2 hk.2.1.2⟩ eb ef
    refine Ev.step (fun k => ?_) ih
    simp only [errataref20_Analyze.l1]
    rw [if_pos (by omega), if_pos (by omega), rd_at hjl, if_pos hx.1, if_pos (by have := h.1; omega), wrap_id (n := (j : Int) + 1) (by omega) (by omega), cast_succ]
theorem rAna_l0 {c0 c1 c2 c3 c4 c5 : Int} (l : List S44) (F : List S95) (h0 : 1 ≤ c0 ∧ c0 ≤ 8) (h4 : 1 ≤ c4 ∧ c4 ≤ 20) (h5 : 0 ≤ c5 ∧ c5 ≤ 30000) (hlen : l.length ≤ 40) : ∀ d i : Nat, i + d = l.length → ∀ bs, pre (i : Int) bs → okFrom (i : Int) (l.drop i) = true →
    Ev (fun k => errataref20_Analyze.l0 k bs (i : Int) F l c0 c1 c2 c3 c4 c5) (ana c0 c4 c5 (i : Int) bs (l.drop i))
  | 0, i, hi, bs, hp, hok => by
    refine Ev.step (f := fun _ => some (bs, -1, 0)) (fun k => ?_) (by rw [List.drop_of_length_le (by omega)]; exact Ev.now _)
    simp only [errataref20_Analyze.l0]
    rw [if_neg (by omega)]
  | d + 1, i, hi, bs, hp, hok => by
    have hil : i < l.length := by omega
    have e : l.drop i = l[i] :: l.drop (i + 1) := List.drop_eq_getElem_cons hil
    rw [e, okFrom] at hok
    obtain ⟨hok1, hok2⟩ := Bool.and_eq_true_iff.1 hok
    rw [e, ana]
    by_cases hb : bdd l[i] = true
    · rw [if_pos hb]
      have hr := rrate_ev l[i] hok1 hp (by omega) hb h0 h4 (c1 := c1) (c2 := c2) (c3 := c3) (c5 := c5)
      have hs := rstate_ev l[i] hok1 hp (by omega) h5 (c0 := c0) (c1 := c1) (c2 := c2) (c3 := c3) (c4 := c4)
      refine Ev.step (f := fun k => (errataref20_rate.f k l[i].f0 l[i].f1 l[i].f2 l[i].f3 l[i].f4 l[i].f5 l[i].f6 l[i].f7 l[i].f8 l[i].f9 l[i].f10 l[i].f11 l[i].f12 l[i].f13 l[i].f14 l[i].f15 bs c0 c1 c2 c3 c4 c5).bind fun t391 => (errataref20_state.f k l[i].f0 l[i].f1 l[i].f2 l[i].f3 l[i].f4 l[i].f5 l[i].f6 l[i].f7 l[i].f8 l[i].f9 l[i].f10 l[i].f11 l[i].f12 l[i].f13 l[i].f14 l[i].f15 bs c0 c1 c2 c3 c4 c5).bind fun t392 => errataref20_Analyze.l1 k bs (i : Int) (ownB l[i]) (ownF l[i]) 0 F l c0 c1 c2 c3 c4 c5 l[i].f0 l[i].f1 l[i].f2 l[i].f3 l[i].f4 l[i].f5 l[i].f6 l[i].f7 l[i].f8 l[i].f9 l[i].f10 l[i].f11 l[i].f12 l[i].f13 l[i].f14 l[i].f15 0 0 t391 t392) (fun k => ?_) (Ev.bind hr (Ev.bind hs ?_))
      · simp only [errataref20_Analyze.l0]
        rw [if_pos (by omega), if_pos (by omega), rd44_at hil, rBounded_eq, Option.bind_some, if_pos hb, rOwn_eq, Option.bind_some]
      · refine rAna_l1 l F l[i] hok1 hp (by omega) _ _ _ ?_ l[i].f1.length 0 (by omega) 0 0 (by omega) (by omega) (by rw [List.drop_zero]) (by rw [List.drop_zero])
        by_cases m2 : 1099511627776 ≤ (boundOf bs c0 c4 c5 l[i]).f2
        · rw [if_pos (Or.inl m2)]
          refine Ev.congr (fun k => ?_) (Ev.now _)
          exact if_pos m2
        by_cases m3 : 1099511627776 ≤ (boundOf bs c0 c4 c5 l[i]).f3
        · rw [if_pos (Or.inr m3)]
          refine Ev.congr (fun k => ?_) (Ev.now _)
          exact (if_neg m2).trans (if_pos m3)
        rw [if_neg (show ¬ (1099511627776 ≤ (boundOf bs c0 c4 c5 l[i]).f2 ∨ 1099511627776 ≤ (boundOf bs c0 c4 c5 l[i]).f3) from fun h => h.elim m2 m3)]
        have hp2 := pre_snoc hp (boundOf_ok (by omega) hp hok1 hb h0 h4 h5.1)
        rw [cast_succ] at hp2 hok2 ⊢
        have ih := rAna_l0 l F h0 h4 h5 hlen d (i + 1) (by omega) _ hp2 hok2 (c1 := c1) (c2 := c2) (c3 := c3)
        refine Ev.congr (fun k => ?_) ih
        exact (if_neg m2).trans (if_neg m3)
    · rw [if_neg hb]
      refine Ev.step (f := fun _ => some ([], (i : Int), 14)) (fun k => ?_) (Ev.now _)
      simp only [errataref20_Analyze.l0]
      rw [if_pos (by omega), if_pos (by omega), rd44_at hil, rBounded_eq, Option.bind_some, if_neg hb]
theorem rAna_ev (l : List S44) (F : List S95) (hl : l.length ≤ 9223372036854775807) (hin : ∀ n ∈ l, n.f1.length ≤ 9223372036854775807) (c0 c1 c2 c3 c4 c5 : Int) :
    Ev (fun k => errataref20_Analyze.f k F l c0 c1 c2 c3 c4 c5) (analyze l c0 c1 c2 c3 c4 c5) := by
  unfold analyze
  have hno : Ev (fun k => errataref20_Analyze.j0 k true F l c0 c1 c2 c3 c4 c5) ([], -1, 2) := by
    refine Ev.step (f := fun _ => some ([], -1, 2)) (fun k => ?_) (Ev.now _)
    simp only [errataref20_Analyze.j0, if_true]
  by_cases hc : rightC c0 c1 c2 c3 c4 c5
  · refine Ev.congr (fun k => by unfold errataref20_Analyze.f; rw [rRightConfig_eq, decide_eq_true hc, Option.bind_some, if_pos rfl]) (Ev.bind (rWell_ev l F hl hin) ?_)
    by_cases hw : well l = true
    · rw [if_pos ⟨hc, hw⟩, hw]
      have hww := well_len hw
      have hr := hc
      unfold rightC at hr
      have := rAna_l0 l F (c0 := c0) (c1 := c1) (c2 := c2) (c3 := c3) (c4 := c4) (c5 := c5) (by omega) (by omega) (by omega) (by omega) l.length 0 (by omega) [] ⟨rfl, fun b hb => by cases hb⟩ (by rw [List.drop_zero]; exact hww.1)
      rw [List.drop_zero] at this
      refine Ev.step (fun k => ?_) this
      simp only [errataref20_Analyze.j0, Bool.not_true, Bool.false_eq_true, if_false]
      rfl
    · rw [if_neg (by intro h; exact hw h.2)]
      have : well l = false := by simpa using hw
      rw [this]
      exact hno
  · rw [if_neg (by intro h; exact hc h.1)]
    exact Ev.congr (fun k => by unfold errataref20_Analyze.f; rw [rRightConfig_eq, decide_eq_false hc, Option.bind_some, if_neg (by decide)]) hno
def sumOf (l : List S37) (s : Int) : Int := l.foldl (fun s b => mn (s + b.f3) 1099511627776) s
def total (l : List S44) (c0 c1 c2 c3 c4 c5 : Int) : Int × Int × Int × Int × Int :=
  if (analyze l c0 c1 c2 c3 c4 c5).2.2 = 0 then
    ((rd_T37 (analyze l c0 c1 c2 c3 c4 c5).1 ((l.length - 1 : Nat) : Int)).f0, (rd_T37 (analyze l c0 c1 c2 c3 c4 c5).1 ((l.length - 1 : Nat) : Int)).f1, (rd_T37 (analyze l c0 c1 c2 c3 c4 c5).1 ((l.length - 1 : Nat) : Int)).f2, sumOf (analyze l c0 c1 c2 c3 c4 c5).1 0, 0)
  else (0, 0, 0, 0, (analyze l c0 c1 c2 c3 c4 c5).2.2)
theorem Total_l0 {n : Int} {bs : List S37} (h : pre n bs) (hn : 1 ≤ n ∧ n ≤ 40) : ∀ d i : Nat, i + d = bs.length → ∀ s : Int, (0 ≤ s ∧ s ≤ 1099511627776) →
    Ev (fun k => bounds_Total.l0 k bs s bs (bs.length : Int) (i : Int)) ((rd_T37 bs ((bs.length - 1 : Nat) : Int)).f0, (rd_T37 bs ((bs.length - 1 : Nat) : Int)).f1, (rd_T37 bs ((bs.length - 1 : Nat) : Int)).f2, sumOf (bs.drop i) s, 0)
  | 0, i, hi, s, hs => by
    have hl := h.1
    have e : wrap64 ((bs.length : Int) - 1) = ((bs.length - 1 : Nat) : Int) := by rw [wrap_id (by omega) (by omega)]; omega
    refine Ev.step (f := fun _ => some _) (fun k => ?_) (Ev.now _)
    simp only [bounds_Total.l0]
    rw [if_neg (by omega), e, if_pos (by omega), if_pos (by omega), List.drop_of_length_le (by omega)]
    rfl
  | d + 1, i, hi, s, hs => by
    have hl := h.1
    have hil : i < bs.length := by omega
    have e : bs.drop i = bs[i] :: bs.drop (i + 1) := List.drop_eq_getElem_cons hil
    have hk := h.2 _ (List.getElem_mem hil)
    unfold okB at hk
    have ih := Total_l0 h hn d (i + 1) (by omega) (mn (s + bs[i].f3) 1099511627776) ⟨le_mn (by omega) (by omega), mn_le _ _⟩
    rw [e]
    refine Ev.step (fun k => ?_) ih
    simp only [bounds_Total.l0]
    rw [if_pos (by omega), if_pos (by omega), if_pos (by omega), rd37_at hil, plus_eq hs.1 hs.2 (by omega) (by omega), Option.bind_some, wrap_id (n := (i : Int) + 1) (by omega) (by omega), cast_succ]
theorem rTotal_l0 {n : Int} {bs : List S37} (h : pre n bs) (hn : 1 ≤ n ∧ n ≤ 40) (a b c : Int) : ∀ d i : Nat, i + d = bs.length → ∀ s : Int, (0 ≤ s ∧ s ≤ 1099511627776) →
    Ev (fun k => errataref20_Total.l0 k bs (i : Int) a b c s) (a, b, c, sumOf (bs.drop i) s, 0)
  | 0, i, hi, s, hs => by
    have hl := h.1
    refine Ev.step (f := fun _ => some _) (fun k => ?_) (Ev.now _)
    simp only [errataref20_Total.l0]
    rw [if_neg (by omega), List.drop_of_length_le (by omega)]
    rfl
  | d + 1, i, hi, s, hs => by
    have hl := h.1
    have hil : i < bs.length := by omega
    have e : bs.drop i = bs[i] :: bs.drop (i + 1) := List.drop_eq_getElem_cons hil
    have hk := h.2 _ (List.getElem_mem hil)
    unfold okB at hk
    have ih := rTotal_l0 h hn a b c d (i + 1) (by omega) (mn (s + bs[i].f3) 1099511627776) ⟨le_mn (by omega) (by omega), mn_le _ _⟩
    rw [e]
    refine Ev.step (fun k => ?_) ih
    simp only [errataref20_Total.l0]
    rw [if_pos (by omega), if_pos (by omega), rd37_at hil, wrap_id (n := s + _) (by omega) (by omega), wrap_id (n := (i : Int) + 1) (by omega) (by omega), cast_succ]
theorem Total_ev (l : List S44) (F : List S95) (hl : l.length ≤ 9223372036854775807) (hin : ∀ n ∈ l, n.f1.length ≤ 9223372036854775807) (c0 c1 c2 c3 c4 c5 : Int) :
    Ev (fun k => bounds_Total.f k F l c0 c1 c2 c3 c4 c5) (total l c0 c1 c2 c3 c4 c5) := by
  unfold total
  refine Ev.congr (fun k => by unfold bounds_Total.f; rfl) (Ev.bind (Ana_ev l F hl hin c0 c1 c2 c3 c4 c5) ?_)
  by_cases h : (analyze l c0 c1 c2 c3 c4 c5).2.2 = 0
  · have A : Acc l c0 c1 c2 c3 c4 c5 (analyze l c0 c1 c2 c3 c4 c5).1 := analyze_acc (e := (analyze l c0 c1 c2 c3 c4 c5).2.1) (by rw [← h])
    have hw := well_len A.well
    have := Total_l0 A.pre (by omega) (analyze l c0 c1 c2 c3 c4 c5).1.length 0 (by omega) 0 (by omega)
    rw [List.drop_zero, A.len] at this
    rw [if_pos h]
    refine Ev.congr (fun k => ?_) this
    rw [if_pos h, A.len]
    rfl
  · rw [if_neg h]
    exact Ev.congr (fun k => by rw [if_neg h]) (Ev.now _)
theorem rTotal_ev (l : List S44) (F : List S95) (hl : l.length ≤ 9223372036854775807) (hin : ∀ n ∈ l, n.f1.length ≤ 9223372036854775807) (c0 c1 c2 c3 c4 c5 : Int) :
    Ev (fun k => errataref20_Total.f k F l c0 c1 c2 c3 c4 c5) (total l c0 c1 c2 c3 c4 c5) := by
  unfold total
  refine Ev.congr (fun k => by unfold errataref20_Total.f; rfl) (Ev.bind (rAna_ev l F hl hin c0 c1 c2 c3 c4 c5) ?_)
  by_cases h : (analyze l c0 c1 c2 c3 c4 c5).2.2 = 0
  · have A : Acc l c0 c1 c2 c3 c4 c5 (analyze l c0 c1 c2 c3 c4 c5).1 := analyze_acc (e := (analyze l c0 c1 c2 c3 c4 c5).2.1) (by rw [← h])
    have hw := well_len A.well
    have hlen := A.len
    have e : wrap64 (((analyze l c0 c1 c2 c3 c4 c5).1.length : Int) - 1) = ((l.length - 1 : Nat) : Int) := by rw [hlen, wrap_id (by omega) (by omega)]; omega
    have := rTotal_l0 A.pre (by omega) (rd_T37 (analyze l c0 c1 c2 c3 c4 c5).1 ((l.length - 1 : Nat) : Int)).f0 (rd_T37 (analyze l c0 c1 c2 c3 c4 c5).1 ((l.length - 1 : Nat) : Int)).f1 (rd_T37 (analyze l c0 c1 c2 c3 c4 c5).1 ((l.length - 1 : Nat) : Int)).f2 (analyze l c0 c1 c2 c3 c4 c5).1.length 0 (by omega) 0 (by omega)
    rw [List.drop_zero] at this
    rw [if_pos h]
    refine Ev.congr (f := fun k => errataref20_Total.j0 k (analyze l c0 c1 c2 c3 c4 c5).1 (analyze l c0 c1 c2 c3 c4 c5).2.2 false) (fun k => ?_) (Ev.step (fun k => ?_) this)
    · rw [if_pos h, show (((analyze l c0 c1 c2 c3 c4 c5).1.length : Int) == 0) = false from beq_eq_false_iff_ne.2 (by omega)]
    · simp only [errataref20_Total.j0, Bool.false_eq_true, if_false]
      rw [e, if_pos (by omega), if_pos (by rw [hlen]; omega)]
      rfl
  · rw [if_neg h]
    refine Ev.congr (fun k => by rw [if_neg h]) (Ev.step (f := fun _ => some _) (fun k => ?_) (Ev.now _))
    simp only [errataref20_Total.j0, if_true]
end Go.Proofs.Yteoljddobfnfiaa.Pure
end
section
namespace Go.Proofs.Yteoljddobfnfiaa.PB
open Go.RowKit Go.Proofs.YteoljddobfnfiaaW.PrintWords Go.Proofs.YteoljddobfnfiaaW.PrintLast Go.Proofs.YteoljddobfnfiaaW.PrintMore
attribute [local go_sem] max2_int min2_int max_two min_two max_three min_three max_four min_four
attribute [local go_sem ↓ high] Go.Proofs.Yteoljddobfnfiaa.My.ld44_eq Go.Proofs.Yteoljddobfnfiaa.My.st44_eq Go.Proofs.Yteoljddobfnfiaa.My.ld27_eq Go.Proofs.Yteoljddobfnfiaa.My.st27_eq Go.Proofs.Yteoljddobfnfiaa.My.ld37_eq Go.Proofs.Yteoljddobfnfiaa.My.st37_eq Go.Proofs.Yteoljddobfnfiaa.My.ld65_eq Go.Proofs.Yteoljddobfnfiaa.My.st65_eq
attribute [local go_sem high] Go.Proofs.Yteoljddobfnfiaa.My.ld44_run Go.Proofs.Yteoljddobfnfiaa.My.st44_run Go.Proofs.Yteoljddobfnfiaa.My.ld27_run Go.Proofs.Yteoljddobfnfiaa.My.st27_run Go.Proofs.Yteoljddobfnfiaa.My.ld37_run Go.Proofs.Yteoljddobfnfiaa.My.st37_run Go.Proofs.Yteoljddobfnfiaa.My.ld65_run Go.Proofs.Yteoljddobfnfiaa.My.st65_run
open Go.Proofs.Yteoljddobfnfiaa.My
attribute [local go_sem] cell_map run_store_fnV one_int one_bool one_string one_slice one_fnV
set_option linter.unusedVariables false
set_option linter.unusedSimpArgs false

def value_Zero.f (a0 : Int) : Option (Int × Int × ByteArray) := some (a0, 0, (⟨#[]⟩ : ByteArray))
set_option maxHeartbeats 8000000 in
set_option maxRecDepth 100000 in
theorem value_Zero.calls (a0 : Int) (r1 : Int) (r2 : Int) (r3 : ByteArray) (w : World) (h : value_Zero.f a0 = some (r1, r2, r3)) :
    Calls Try.prog 29 #[.int .i64 a0] w fun e w' => e = .returned (.agg #[.int .i64 r1, .int .i64 r2, .string r3]) ∧ Below w.heap.size w w' := by
 have hu70 := Try.underlying70
 have HB := Aside0.mk (Below.refl w.heap.size w)
 have H : (some (a0, 0, (⟨#[]⟩ : ByteArray))) = some (r1, r2, r3) := h
 clear h
 simp only [Option.some.injEq, Prod.mk.injEq] at H
 obtain ⟨rfl, rfl, rfl⟩ := H
 go_enter Try.func29, Try.ntmps29
 go_wp2_with (first | ((with_reducible refine gate_dst (N := 2) rfl ?_); refine box_event ?hg (N := 2) ?hd (cs := #[.int .i64 0, .int .i64 0, .string (⟨#[]⟩ : ByteArray)]) (t := 70) ?hr ?_; (case hd => rfl); (case hg => rfl); (case hr => first | (go_simp; done) | (go_simp; rfl)); intro gb305 hg w2 hbox hb; have BK305 := Aside0.mk (hbox); have GW305 := Aside0.mk ((by rw [hg]; exact below_sizeA : w.heap.size ≤ gb305)); have GE305 := GW305; replace HB := Aside0.mk (below_stepA hb); clear hb hbox hg; have hz3 := blk3 BK305.out))
 refine bodyPost_ret (results_cell_row rfl _ _ gb305 70 #[.int .i64 a0, .int .i64 0, .string (⟨#[]⟩ : ByteArray)] (0, 0) _ rfl (blk_move BK305.out) Try.underlying70 rfl (by kernel_rfl)) rfl ?_
 exact ⟨by first | rfl | (simp [errW_none, errW_some] <;> rfl) | (simp [*, errW_none, errW_some] <;> rfl), belowA⟩

end Go.Proofs.Yteoljddobfnfiaa.PB
end
section
namespace Go.Proofs.Yteoljddobfnfiaa.PB
open Go.RowKit Go.Proofs.YteoljddobfnfiaaW.PrintWords Go.Proofs.YteoljddobfnfiaaW.PrintLast Go.Proofs.YteoljddobfnfiaaW.PrintMore
attribute [local go_sem] max2_int min2_int max_two min_two max_three min_three max_four min_four
attribute [local go_sem ↓ high] Go.Proofs.Yteoljddobfnfiaa.My.ld44_eq Go.Proofs.Yteoljddobfnfiaa.My.st44_eq Go.Proofs.Yteoljddobfnfiaa.My.ld27_eq Go.Proofs.Yteoljddobfnfiaa.My.st27_eq Go.Proofs.Yteoljddobfnfiaa.My.ld37_eq Go.Proofs.Yteoljddobfnfiaa.My.st37_eq Go.Proofs.Yteoljddobfnfiaa.My.ld65_eq Go.Proofs.Yteoljddobfnfiaa.My.st65_eq
attribute [local go_sem high] Go.Proofs.Yteoljddobfnfiaa.My.ld44_run Go.Proofs.Yteoljddobfnfiaa.My.st44_run Go.Proofs.Yteoljddobfnfiaa.My.ld27_run Go.Proofs.Yteoljddobfnfiaa.My.st27_run Go.Proofs.Yteoljddobfnfiaa.My.ld37_run Go.Proofs.Yteoljddobfnfiaa.My.st37_run Go.Proofs.Yteoljddobfnfiaa.My.ld65_run Go.Proofs.Yteoljddobfnfiaa.My.st65_run
open Go.Proofs.Yteoljddobfnfiaa.My
attribute [local go_sem] cell_map run_store_fnV one_int one_bool one_string one_slice one_fnV
set_option linter.unusedVariables false
set_option linter.unusedSimpArgs false

mutual
def bounds_Witness.j0 : Nat → Int → Int → Bool → List (S95) → List (S44) → Option ((List (S55)))
  | 0, _, _, _, _, _ => none
  | k + 1, x1, x2, x29, x307000, x307001 => if x29 = true then (some ([] : List (S55))) else (if 0 ≤ x1 then (if x1 < (x307001.length : Int) then ((bounds_Bounded.f ((rd_T44 x307001 x1).f0) ((rd_T44 x307001 x1).f1) ((rd_T44 x307001 x1).f2) ((rd_T44 x307001 x1).f3) ((rd_T44 x307001 x1).f4) ((rd_T44 x307001 x1).f5) ((rd_T44 x307001 x1).f6) ((rd_T44 x307001 x1).f7) ((rd_T44 x307001 x1).f8) ((rd_T44 x307001 x1).f9) ((rd_T44 x307001 x1).f10) ((rd_T44 x307001 x1).f11) ((rd_T44 x307001 x1).f12) ((rd_T44 x307001 x1).f13) ((rd_T44 x307001 x1).f14) ((rd_T44 x307001 x1).f15)).bind fun t312 => (if t312 = true then (bounds_Witness.j1 k x2 true x307000 x307001 ((rd_T44 x307001 x1).f0) ((rd_T44 x307001 x1).f1) ((rd_T44 x307001 x1).f2) ((rd_T44 x307001 x1).f3) ((rd_T44 x307001 x1).f4) ((rd_T44 x307001 x1).f5) ((rd_T44 x307001 x1).f6) ((rd_T44 x307001 x1).f7) ((rd_T44 x307001 x1).f8) ((rd_T44 x307001 x1).f9) ((rd_T44 x307001 x1).f10) ((rd_T44 x307001 x1).f11) ((rd_T44 x307001 x1).f12) ((rd_T44 x307001 x1).f13) ((rd_T44 x307001 x1).f14) ((rd_T44 x307001 x1).f15)) else (bounds_Witness.j1 k x2 ((((rd_T44 x307001 x1).f1).length : Int) == 0) x307000 x307001 ((rd_T44 x307001 x1).f0) ((rd_T44 x307001 x1).f1) ((rd_T44 x307001 x1).f2) ((rd_T44 x307001 x1).f3) ((rd_T44 x307001 x1).f4) ((rd_T44 x307001 x1).f5) ((rd_T44 x307001 x1).f6) ((rd_T44 x307001 x1).f7) ((rd_T44 x307001 x1).f8) ((rd_T44 x307001 x1).f9) ((rd_T44 x307001 x1).f10) ((rd_T44 x307001 x1).f11) ((rd_T44 x307001 x1).f12) ((rd_T44 x307001 x1).f13) ((rd_T44 x307001 x1).f14) ((rd_T44 x307001 x1).f15)))) else (none)) else (none))
def bounds_Witness.j1 : Nat → Int → Bool → List (S95) → List (S44) → Int → List Int → ByteArray → Int → List (S93) → Int → Int → Int → List Int → List Int → Int → Int → Int → List (S97) → List (S99) → List (S50) → Option ((List (S55)))
  | 0, _, _, _, _, _, _, _, _, _, _, _, _, _, _, _, _, _, _, _, _ => none
  | k + 1, x2, x42, x307000, x307001, x312000, x312001, x312002, x312003, x312004, x312005, x312006, x312007, x312008, x312009, x312010, x312011, x312012, x312013, x312014, x312015 => if x42 = true then (some ([] : List (S55))) else (bounds_Witness.l0 k ([] : List (S55)) x2 0 x307000 x307001 x312000 x312001 x312002 x312003 x312004 x312005 x312006 x312007 x312008 x312009 x312010 x312011 x312012 x312013 x312014 x312015)
def bounds_Witness.l0 : Nat → List (S55) → Int → Int → List (S95) → List (S44) → Int → List Int → ByteArray → Int → List (S93) → Int → Int → Int → List Int → List Int → Int → Int → Int → List (S97) → List (S99) → List (S50) → Option ((List (S55)))
  | 0, _, _, _, _, _, _, _, _, _, _, _, _, _, _, _, _, _, _, _, _, _ => none
  | k + 1, x8, x43, x44, x307000, x307001, x312000, x312001, x312002, x312003, x312004, x312005, x312006, x312007, x312008, x312009, x312010, x312011, x312012, x312013, x312014, x312015 => if x44 < x43 then (if 0 < (x312001.length : Int) then (if 0 ≤ (rd x312001 0) then (if (rd x312001 0) < (x307001.length : Int) then (bounds_Witness.l1 k x8 x43 x44 ((rd_T44 x307001 (rd x312001 0)).f15) (((rd_T44 x307001 (rd x312001 0)).f15).length : Int) 0 x307000 x307001 x312000 x312001 x312002 x312003 x312004 x312005 x312006 x312007 x312008 x312009 x312010 x312011 x312012 x312013 x312014 x312015 (wrap64 (30001 * x44)) ([] : List (S70)) 1) else (none)) else (none)) else (none)) else (some x8)
def bounds_Witness.l1 : Nat → List (S55) → Int → Int → List (S50) → Int → Int → List (S95) → List (S44) → Int → List Int → ByteArray → Int → List (S93) → Int → Int → Int → List Int → List Int → Int → Int → Int → List (S97) → List (S99) → List (S50) → Int → List (S70) → Int → Option ((List (S55)))
  | 0, _, _, _, _, _, _, _, _, _, _, _, _, _, _, _, _, _, _, _, _, _, _, _, _, _, _, _ => none
  | k + 1, x8, x43, x44, x58, x59, x60, x307000, x307001, x312000, x312001, x312002, x312003, x312004, x312005, x312006, x312007, x312008, x312009, x312010, x312011, x312012, x312013, x312014, x312015, x314000, x314001, x314002 => if x60 < x59 then (if 0 ≤ x60 then (if x60 < (x58.length : Int) then ((bounds_within.f ((rd_T50 x58 x60).f1) 0 2).bind fun t321 => (if t321 = true then ((value_Zero.f ((rd_T50 x58 x60).f1)).bind fun bt322 => (if x314001.length < 4398046511104 then (bounds_Witness.l1 k x8 x43 x44 x58 x59 (wrap64 (x60 + 1)) x307000 x307001 x312000 x312001 x312002 x312003 x312004 x312005 x312006 x312007 x312008 x312009 x312010 x312011 x312012 x312013 x312014 x312015 x314000 (x314001 ++ [(⟨bt322.1, bt322.2.1, bt322.2.2⟩ : S70)]) x314002) else (none))) else (some ([] : List (S55))))) else (none)) else (none)) else (if x8.length < 3518437208883 then (bounds_Witness.l0 k (x8 ++ [(⟨x314000, x314001, x314002⟩ : S55)]) x43 (wrap64 (x44 + 1)) x307000 x307001 x312000 x312001 x312002 x312003 x312004 x312005 x312006 x312007 x312008 x312009 x312010 x312011 x312012 x312013 x312014 x312015) else (none))
end
def bounds_Witness.f (k : Nat) (l0_0 : List (S95)) (l0_1 : List (S44)) (a1 : Int) (a2 : Int) : Option ((List (S55))) := (bounds_Well.f k l0_0 l0_1).bind fun t307 => (if t307 = true then ((bounds_within.f a1 0 (wrap64 ((l0_1.length : Int) - 1))).bind fun t308 => (if t308 = true then ((bounds_within.f a2 1 1000).bind fun t309 => (bounds_Witness.j0 k a1 a2 (!t309) l0_0 l0_1)) else (bounds_Witness.j0 k a1 a2 true l0_0 l0_1))) else (bounds_Witness.j0 k a1 a2 true l0_0 l0_1))
def bounds_Witness.T11 : Bool × List (List Nat × List Nat) := (true, [([], []), ([0], [0]), ([], []), ([2], [2]), ([3], [3]), ([4], [4]), ([1, 5], [1, 5]), ([6], [6]), ([7], [7]), ([8], [8]), ([], [])])
def bounds_Witness.B11 : List Nat := [0, 1, 0, 4, 12, 28, 63, 127, 255, 511, 0]
theorem bounds_Witness.tab11 : rtab .any (opsOf Try.f13 11) = bounds_Witness.T11 := by kernel_rfl
theorem bounds_Witness.bits11 : waitsOk bounds_Witness.T11.2 bounds_Witness.B11 = true := by kernel_rfl
def bounds_Witness.T16 : Bool × List (List Nat × List Nat) := (true, [([], []), ([0], [0]), ([], []), ([2], [2]), ([3], [3]), ([4], [4]), ([1, 5, 4], [1, 5]), ([0, 1, 2, 3, 4, 5, 6], []), ([7, 6, 6, 0, 1, 2, 3, 4, 5, 6], [6, 7])])
def bounds_Witness.B16 : List Nat := [0, 1, 0, 4, 12, 28, 63, 127, 255]
theorem bounds_Witness.tab16 : rtab .any (opsOf Try.f13 16) = bounds_Witness.T16 := by kernel_rfl
theorem bounds_Witness.bits16 : waitsOk bounds_Witness.T16.2 bounds_Witness.B16 = true := by kernel_rfl
set_option maxHeartbeats 8000000 in
set_option maxRecDepth 100000 in
theorem bounds_Witness.calls (k : Nat) (A0_0 : Option Addr) (c0_0 : Nat) (l0_0 : List (S95)) (A0_1 : Option Addr) (c0_1 : Nat) (l0_1 : List (S44)) (a1 : Int) (a2 : Int) (r : List (S55)) (w : World) (hr0_0 : Kd.C k95 w A0_0 l0_0.length l0_0) (hc0_0 : l0_0.length ≤ c0_0) (hr0_1 : Kd.C k44 w A0_1 l0_1.length l0_1) (hc0_1 : l0_1.length ≤ c0_1) (h : bounds_Witness.f k l0_0 l0_1 a1 a2 = some r) :
    Calls Try.prog 13 #[.agg #[.slice A0_0 l0_0.length c0_0, .slice A0_1 l0_1.length c0_1], .int .i64 a1, .int .i64 a2] w fun e w' => ∃ v0_ : Value, e = .returned (v0_) ∧ Kd.S k55 55 w' w.heap.size (fun _ => True) v0_ r ∧ Below w.heap.size w w' := by
 have hu25 := Try.underlying25
 have hu44 := Try.underlying44
 have hu55 := Try.underlying55
 have hu50 := Try.underlying50
 have HR0_0 := Aside0.mk hr0_0
 have HC0_0 := Aside0.mk hc0_0
 clear hr0_0 hc0_0
 have HR0_1 := Aside0.mk hr0_1
 have HC0_1 := Aside0.mk hc0_1
 clear hr0_1 hc0_1
 have HB := Aside0.mk (Below.refl w.heap.size w)
 have H : ((bounds_Well.f k l0_0 l0_1).bind fun t307 => (if t307 = true then ((bounds_within.f a1 0 (wrap64 ((l0_1.length : Int) - 1))).bind fun t308 => (if t308 = true then ((bounds_within.f a2 1 1000).bind fun t309 => (bounds_Witness.j0 k a1 a2 (!t309) l0_0 l0_1)) else (bounds_Witness.j0 k a1 a2 true l0_0 l0_1))) else (bounds_Witness.j0 k a1 a2 true l0_0 l0_1))) = some r := h
 clear h
 have HC4 := Aside0.mk H
 clear H
 go_enter Try.func13, Try.ntmps13
 go_upto_region 1 with (first | ((with_reducible refine gate_dst (N := 3) rfl ?_); (try (refine gate_guard (by rfl) ?_; dsimp only)); refine box_event ?hg (N := 3) ?hd (cs := #[.slice A0_0 l0_0.length c0_0, .slice A0_1 l0_1.length c0_1]) (t := 25) ?hr ?_; (case hd => rfl); (case hg => rfl); (case hr => first | (go_simp; done) | (go_simp; rfl)); intro gb306 hg w5 hbox hb; have BK306 := Aside0.mk (hbox); have GW306 := Aside0.mk ((by rw [hg]; exact below_sizeA : w.heap.size ≤ gb306)); have GE306 := GW306; replace HB := Aside0.mk (below_stepA hb); clear hb hbox hg))
 (try simp only [Act.put, List.setIfInBounds_toArray, List.set_cons_zero, List.set_cons_succ])
 go_cut [29] (fun v29 wc => ∃ (kq : Nat) (x29_3 : Bool), v29 = .bool x29_3 ∧ Aside0 (bounds_Witness.j0 kq a1 a2 x29_3 l0_0 l0_1 = some r) ∧ Aside0 (kq ≤ k) ∧ Aside0 (wc.heap[gb306]? = some (.cells #[(.slice A0_0 l0_0.length c0_0), (.slice A0_1 l0_1.length c0_1)] 25 (0, 0))) ∧ Aside0 (Below w.heap.size w wc))
 case first =>
  have H := HC4.out
  clear HC4
  replace H := Option.bind_eq_some_iff.mp H
  obtain ⟨t307, A60, H⟩ := H
  try dsimp only at H
  have A6 := Aside0.mk A60
  clear A60
  by_cases c7 : t307 = true
  ·
   subst c7
   rw [if_pos rfl] at H
   replace H := Option.bind_eq_some_iff.mp H
   obtain ⟨t308, A80, H⟩ := H
   try dsimp only at H
   have A8 := Aside0.mk A80
   clear A80
   by_cases c9 : t308 = true
   ·
    subst c9
    rw [if_pos rfl] at H
    replace H := Option.bind_eq_some_iff.mp H
    obtain ⟨t309, A100, H⟩ := H
    try dsimp only at H
    have A10 := Aside0.mk A100
    clear A100
    have H' := Aside0.mk H
    clear H
    have hz11 := blk2 BK306.out
    go_wp2_with (first | ((with_reducible refine gate_callee (f := 21) rfl ?_); refine goesL_ (some 14) rfl rfl Try.func21 (by kernel_rfl) rfl #[.agg #[.slice A0_0 l0_0.length c0_0, .slice A0_1 l0_1.length c0_1]] rfl mapA ?_; (with_reducible refine (bounds_Well.calls k _ _ l0_0 _ _ l0_1 true _ (c_belowA HR0_0.out) HC0_0.out (c_belowA HR0_1.out) HC0_1.out A6.out).mono ?_); rintro e w12 ⟨rfl, hb⟩; refine ⟨_, rfl, ?_⟩; replace BK306 := Aside0.mk (blk_keepA BK306.out hb); replace HB := Aside0.mk (below_stepA hb); (try clear hb); have hz13 := blk2 BK306.out) | (go_at_call 28; (with_reducible refine (bounds_within.calls a1 0 (wrap64 ((l0_1.length : Int) - 1)) true _ A8.out).mono ?_); rintro e w' ⟨rfl, ⟨nd, rfl⟩⟩) | (go_at_call 28; (with_reducible refine (bounds_within.calls a2 1 1000 t309 _ A10.out).mono ?_); rintro e w' ⟨rfl, ⟨nd, rfl⟩⟩))
    go_meet
    case rel => exact ⟨_, (!t309), (by first | rfl | (simp; done) | (simp [*]; done)), H', ⟨by first | omega | exact Nat.le_refl _⟩, ⟨blk_move BK306.out⟩, ⟨by repeat (first | (with_reducible first | exact HB.out | apply below_alloc | apply pw_below_drewN | apply below_drew1 | refine below_set ?_ GE306.out) | exact HB.out)⟩⟩
   ·
    replace c9 := Bool.eq_false_iff.mpr c9
    subst c9
    rw [if_neg (show ¬ (false = true) by decide)] at H
    have H' := Aside0.mk H
    clear H
    have hz14 := blk2 BK306.out
    go_wp2_with (first | ((with_reducible refine gate_callee (f := 21) rfl ?_); refine goesL_ (some 14) rfl rfl Try.func21 (by kernel_rfl) rfl #[.agg #[.slice A0_0 l0_0.length c0_0, .slice A0_1 l0_1.length c0_1]] rfl mapA ?_; (with_reducible refine (bounds_Well.calls k _ _ l0_0 _ _ l0_1 true _ (c_belowA HR0_0.out) HC0_0.out (c_belowA HR0_1.out) HC0_1.out A6.out).mono ?_); rintro e w15 ⟨rfl, hb⟩; refine ⟨_, rfl, ?_⟩; replace BK306 := Aside0.mk (blk_keepA BK306.out hb); replace HB := Aside0.mk (below_stepA hb); (try clear hb); have hz16 := blk2 BK306.out) | (go_at_call 28; (with_reducible refine (bounds_within.calls a1 0 (wrap64 ((l0_1.length : Int) - 1)) false _ A8.out).mono ?_); rintro e w' ⟨rfl, ⟨nd, rfl⟩⟩))
    go_meet
    case rel => exact ⟨_, (true), (by first | rfl | (simp; done) | (simp [*]; done)), H', ⟨by first | omega | exact Nat.le_refl _⟩, ⟨blk_move BK306.out⟩, ⟨by repeat (first | (with_reducible first | exact HB.out | apply below_alloc | apply pw_below_drewN | apply below_drew1 | refine below_set ?_ GE306.out) | exact HB.out)⟩⟩
  ·
   replace c7 := Bool.eq_false_iff.mpr c7
   subst c7
   rw [if_neg (show ¬ (false = true) by decide)] at H
   have H' := Aside0.mk H
   clear H
   have hz17 := blk2 BK306.out
   go_wp2_with (first | ((with_reducible refine gate_callee (f := 21) rfl ?_); refine goesL_ (some 14) rfl rfl Try.func21 (by kernel_rfl) rfl #[.agg #[.slice A0_0 l0_0.length c0_0, .slice A0_1 l0_1.length c0_1]] rfl mapA ?_; (with_reducible refine (bounds_Well.calls k _ _ l0_0 _ _ l0_1 false _ (c_belowA HR0_0.out) HC0_0.out (c_belowA HR0_1.out) HC0_1.out A6.out).mono ?_); rintro e w18 ⟨rfl, hb⟩; refine ⟨_, rfl, ?_⟩; replace BK306 := Aside0.mk (blk_keepA BK306.out hb); replace HB := Aside0.mk (below_stepA hb); (try clear hb)))
   go_meet
   case rel => exact ⟨_, (true), (by first | rfl | (simp; done) | (simp [*]; done)), H', ⟨by first | omega | exact Nat.le_refl _⟩, ⟨blk_move BK306.out⟩, ⟨by repeat (first | (with_reducible first | exact HB.out | apply below_alloc | apply pw_below_drewN | apply below_drew1 | refine below_set ?_ GE306.out) | exact HB.out)⟩⟩
 case rest =>
  clear HC4
  try clear c1
  try clear c2
  try clear p2
  try clear p6
  try clear c7
  try clear c9
  try clear c13
  try clear hz11
  try clear hz13
  try clear hz14
  try clear hz16
  try clear hz17
  obtain ⟨kq, x29_3, rfl, HA, HJ3, BK306, HB⟩ := hcut
  cases kq with
  | zero => exact absurd HA.out (by simp [bounds_Witness.j0])
  | succ kj3 =>
   have H := HA.out
   clear HA
   simp only [bounds_Witness.j0] at H
   by_cases c19 : x29_3 = true
   ·
    subst c19
    rw [if_pos rfl] at H
    obtain rfl := Option.some.inj H
    go_wp2
    go_ret
    exact ⟨_, by first | rfl | (simp [errW_none, errW_some] <;> rfl) | (simp [*, errW_none, errW_some] <;> rfl), by first | exact Kd.S_nil _ _ _ _ _ | exact Kd.N_nil _ _ _ _ _ | exact Kd.V_nil _ _ _ _ _ | exact Kd.Q_nil _ _ _ _ _ | exact Kd.R_nil _ _ _ _ _, belowA⟩
   ·
    replace c19 := Bool.eq_false_iff.mpr c19
    subst c19
    rw [if_neg (show ¬ (false = true) by decide)] at H
    by_cases c20 : 0 ≤ a1
    case neg => rw [if_neg c20] at H; exact absurd H (by simp)
    rw [if_pos c20] at H
    have c20b0 : decide (0 ≤ a1) = true := decide_eq_true c20
    clear c20
    by_cases c21 : a1 < (l0_1.length : Int)
    case neg => rw [if_neg c21] at H; exact absurd H (by simp)
    rw [if_pos c21] at H
    have c21b0 : decide (a1 < (l0_1.length : Int)) = true := decide_eq_true c21
    clear c21
    have HC22 := Aside0.mk H
    clear H
    have hz23 := blk2 BK306.out
    have p310 : 0 ≤ (a1 : Int) := odA
    have q310 : a1 < (l0_1.length : Int) := odA
    obtain ⟨ad310, A310_1, c310_1, A310_4, c310_4, A310_8, c310_8, A310_9, c310_9, A310_13, c310_13, A310_14, c310_14, A310_15, c310_15, e310, hx310_0, hx310_1, hx310_2, hx310_3, hx310_4, hx310_5, hx310_6, hx310_7, hx310_8, hx310_9, hx310_10, hx310_11, hx310_12, hx310_13, hx310_14, hx310_15, hl310_1, hi310_1, hl310_4, hi310_4, hl310_8, hi310_8, hl310_9, hi310_9, hl310_13, hi310_13, hl310_14, hi310_14, hl310_15, hi310_15⟩ := at_T44 HR0_1.out a1 p310 q310
    cases e310
    replace hx310_0 := pw_cell_below HB.out hx310_0
    replace hx310_1 := pw_cell_below HB.out hx310_1
    replace hx310_2 := pw_cell_below HB.out hx310_2
    replace hx310_3 := pw_cell_below HB.out hx310_3
    replace hx310_4 := pw_cell_below HB.out hx310_4
    replace hx310_5 := pw_cell_below HB.out hx310_5
    replace hx310_6 := pw_cell_below HB.out hx310_6
    replace hx310_7 := pw_cell_below HB.out hx310_7
    replace hx310_8 := pw_cell_below HB.out hx310_8
    replace hx310_9 := pw_cell_below HB.out hx310_9
    replace hx310_10 := pw_cell_below HB.out hx310_10
    replace hx310_11 := pw_cell_below HB.out hx310_11
    replace hx310_12 := pw_cell_below HB.out hx310_12
    replace hx310_13 := pw_cell_below HB.out hx310_13
    replace hx310_14 := pw_cell_below HB.out hx310_14
    replace hx310_15 := pw_cell_below HB.out hx310_15
    have HR310_1 := Aside0.mk hi310_1
    have HC310_1 := Aside0.mk hl310_1
    clear hi310_1 hl310_1
    have HR310_4 := Aside0.mk hi310_4
    have HC310_4 := Aside0.mk hl310_4
    clear hi310_4 hl310_4
    have HR310_8 := Aside0.mk hi310_8
    have HC310_8 := Aside0.mk hl310_8
    clear hi310_8 hl310_8
    have HR310_9 := Aside0.mk hi310_9
    have HC310_9 := Aside0.mk hl310_9
    clear hi310_9 hl310_9
    have HR310_13 := Aside0.mk hi310_13
    have HC310_13 := Aside0.mk hl310_13
    clear hi310_13 hl310_13
    have HR310_14 := Aside0.mk hi310_14
    have HC310_14 := Aside0.mk hl310_14
    clear hi310_14 hl310_14
    have HR310_15 := Aside0.mk hi310_15
    have HC310_15 := Aside0.mk hl310_15
    clear hi310_15 hl310_15
    replace p310 := eq_true p310
    replace q310 := eq_true q310
    go_upto_region 4 with (first | ((with_reducible refine gate_dst (N := 7) rfl ?_); (try (refine gate_guard (by rfl) ?_; dsimp only)); refine box_event ?hg (N := 7) ?hd (cs := #[.int .i64 0, .slice none 0 0, .string (⟨#[]⟩ : ByteArray), .int .i64 0, .slice none 0 0, .int .i64 0, .int .i64 0, .int .i64 0, .slice none 0 0, .slice none 0 0, .int .i64 0, .int .i64 0, .int .i64 0, .slice none 0 0, .slice none 0 0, .slice none 0 0]) (t := 44) ?hr ?_; (case hd => rfl); (case hg => rfl); (case hr => first | (go_simp; done) | (go_simp; rfl)); intro gb311 hg w24 hbox hb; have BK311 := Aside0.mk (hbox); have GW311 := Aside0.mk ((by rw [hg]; exact below_sizeA : w.heap.size ≤ gb311)); have GE311 := GW311; have NB306_311 := Aside0.mk ((by rw [hg]; exact Nat.ne_of_lt (blk_ltKA BK306.out) : gb306 ≠ gb311)); have NB311_306 := Aside0.mk NB306_311.out.symm; replace BK306 := Aside0.mk (blk_keepA BK306.out hb); replace HB := Aside0.mk (below_stepA hb); clear hb hbox hg; have hnb25 := NB311_306.out; have hnc25 := NB306_311.out; have hz26 := blk16 BK311.out))
    (try simp only [Act.put, List.setIfInBounds_toArray, List.set_cons_zero, List.set_cons_succ])
    go_cut [42] (fun v42 wc => ∃ (kq : Nat) (x42_21 : Bool), v42 = .bool x42_21 ∧ Aside0 (bounds_Witness.j1 kq a2 x42_21 l0_0 l0_1 ((rd_T44 l0_1 a1).f0) ((rd_T44 l0_1 a1).f1) ((rd_T44 l0_1 a1).f2) ((rd_T44 l0_1 a1).f3) ((rd_T44 l0_1 a1).f4) ((rd_T44 l0_1 a1).f5) ((rd_T44 l0_1 a1).f6) ((rd_T44 l0_1 a1).f7) ((rd_T44 l0_1 a1).f8) ((rd_T44 l0_1 a1).f9) ((rd_T44 l0_1 a1).f10) ((rd_T44 l0_1 a1).f11) ((rd_T44 l0_1 a1).f12) ((rd_T44 l0_1 a1).f13) ((rd_T44 l0_1 a1).f14) ((rd_T44 l0_1 a1).f15) = some r) ∧ Aside0 (kq ≤ kj3) ∧ Aside0 (wc.heap[gb306]? = some (.cells #[(.slice A0_0 l0_0.length c0_0), (.slice (some ad310) l0_1.length c0_1)] 25 (0, 0))) ∧ Aside0 (wc.heap[gb311]? = some (.cells #[.int .i64 ((rd_T44 l0_1 a1).f0), (.slice A310_1 ((rd_T44 l0_1 a1).f1).length c310_1), .string ((rd_T44 l0_1 a1).f2), .int .i64 ((rd_T44 l0_1 a1).f3), (.slice A310_4 ((rd_T44 l0_1 a1).f4).length c310_4), .int .i64 ((rd_T44 l0_1 a1).f5), .int .i64 ((rd_T44 l0_1 a1).f6), .int .i64 ((rd_T44 l0_1 a1).f7), (.slice A310_8 ((rd_T44 l0_1 a1).f8).length c310_8), (.slice A310_9 ((rd_T44 l0_1 a1).f9).length c310_9), .int .i64 ((rd_T44 l0_1 a1).f10), .int .i64 ((rd_T44 l0_1 a1).f11), .int .i64 ((rd_T44 l0_1 a1).f12), (.slice A310_13 ((rd_T44 l0_1 a1).f13).length c310_13), (.slice A310_14 ((rd_T44 l0_1 a1).f14).length c310_14), (.slice A310_15 ((rd_T44 l0_1 a1).f15).length c310_15)] 44 (0, 0))) ∧ Aside0 (Below w.heap.size w wc))
    case first =>
     have H := HC22.out
     clear HC22
     replace H := Option.bind_eq_some_iff.mp H
     obtain ⟨t312, A270, H⟩ := H
     try dsimp only at H
     have A27 := Aside0.mk A270
     clear A270
     by_cases c28 : t312 = true
     ·
      subst c28
      rw [if_pos rfl] at H
      have H' := Aside0.mk H
      clear H
      have hnb29 := NB311_306.out
      have hnc29 := NB306_311.out
      have hz30 := blk16 BK311.out
      go_wp2_with (first | ((with_reducible refine gate_callee (f := 12) rfl ?_); refine goesL_ (some 36) rfl rfl Try.func12 (by kernel_rfl) rfl #[.agg (A44 (rd_T44 l0_1 a1) A310_1 c310_1 A310_4 c310_4 A310_8 c310_8 A310_9 c310_9 A310_13 c310_13 A310_14 c310_14 A310_15 c310_15)] rfl mapA ?_; (with_reducible refine (bounds_Bounded.calls _ _ _ _ _ _ _ _ _ _ _ _ _ _ _ _ _ _ _ _ _ _ _ _ _ _ _ _ _ _ true _ (c_belowB HR310_1.out) HC310_1.out (c_belowB HR310_4.out) HC310_4.out (c_belowB HR310_8.out) HC310_8.out (c_belowB HR310_9.out) HC310_9.out (c_belowB HR310_13.out) HC310_13.out (c_belowB HR310_14.out) HC310_14.out (c_belowB HR310_15.out) HC310_15.out A27.out).mono ?_); rintro e w31 ⟨rfl, hb⟩; refine ⟨_, rfl, ?_⟩; replace BK306 := Aside0.mk (blk_keepA BK306.out hb); replace BK311 := Aside0.mk (blk_below (g := gb311) (o := .cells (A44 (rd_T44 l0_1 a1) A310_1 c310_1 A310_4 c310_4 A310_8 c310_8 A310_9 c310_9 A310_13 c310_13 A310_14 c310_14 A310_15 c310_15) 44 (0, 0)) (blk_move BK311.out) hb); replace HB := Aside0.mk (below_stepA hb); (try clear hb)))
      go_meet
      case rel => exact ⟨_, (true), (by first | rfl | (simp; done) | (simp [*]; done)), H', ⟨by have := HJ3.out; first | omega | exact Nat.le_refl _⟩, ⟨blk_move BK306.out⟩, ⟨blk_move BK311.out⟩, ⟨by repeat (first | (with_reducible first | exact HB.out | apply below_alloc | apply pw_below_drewN | apply below_drew1 | refine below_set ?_ GE306.out | refine below_set ?_ GE311.out) | exact HB.out)⟩⟩
     ·
      replace c28 := Bool.eq_false_iff.mpr c28
      subst c28
      rw [if_neg (show ¬ (false = true) by decide)] at H
      have H' := Aside0.mk H
      clear H
      have hnb32 := NB311_306.out
      have hnc32 := NB306_311.out
      have hz33 := blk16 BK311.out
      go_wp2_with (first | ((with_reducible refine gate_callee (f := 12) rfl ?_); refine goesL_ (some 36) rfl rfl Try.func12 (by kernel_rfl) rfl #[.agg (A44 (rd_T44 l0_1 a1) A310_1 c310_1 A310_4 c310_4 A310_8 c310_8 A310_9 c310_9 A310_13 c310_13 A310_14 c310_14 A310_15 c310_15)] rfl mapA ?_; (with_reducible refine (bounds_Bounded.calls _ _ _ _ _ _ _ _ _ _ _ _ _ _ _ _ _ _ _ _ _ _ _ _ _ _ _ _ _ _ false _ (c_belowB HR310_1.out) HC310_1.out (c_belowB HR310_4.out) HC310_4.out (c_belowB HR310_8.out) HC310_8.out (c_belowB HR310_9.out) HC310_9.out (c_belowB HR310_13.out) HC310_13.out (c_belowB HR310_14.out) HC310_14.out (c_belowB HR310_15.out) HC310_15.out A27.out).mono ?_); rintro e w34 ⟨rfl, hb⟩; refine ⟨_, rfl, ?_⟩; replace BK306 := Aside0.mk (blk_keepA BK306.out hb); replace BK311 := Aside0.mk (blk_below (g := gb311) (o := .cells (A44 (rd_T44 l0_1 a1) A310_1 c310_1 A310_4 c310_4 A310_8 c310_8 A310_9 c310_9 A310_13 c310_13 A310_14 c310_14 A310_15 c310_15) 44 (0, 0)) (blk_move BK311.out) hb); replace HB := Aside0.mk (below_stepA hb); (try clear hb); have hz35 := blk16 BK311.out))
      go_meet
      case rel => exact ⟨_, (((((rd_T44 l0_1 a1).f1).length : Int) == 0)), (by first | rfl | (simp; done) | (simp [*]; done)), H', ⟨by have := HJ3.out; first | omega | exact Nat.le_refl _⟩, ⟨blk_move BK306.out⟩, ⟨blk_move BK311.out⟩, ⟨by repeat (first | (with_reducible first | exact HB.out | apply below_alloc | apply pw_below_drewN | apply below_drew1 | refine below_set ?_ GE306.out | refine below_set ?_ GE311.out) | exact HB.out)⟩⟩
    case rest =>
     clear HC22
     try clear c1
     try clear c2
     try clear p2
     try clear c3
     try clear p3
     try clear q3
     try clear hx3
     try clear p6
     try clear c7
     try clear c9
     try clear c12
     try clear c13
     try clear c19
     try clear c20
     try clear c20b0
     try clear c21
     try clear c21b0
     try clear c25
     try clear c28
     try clear c29
     try clear c31
     try clear p31
     try clear q31
     try clear hx31
     try clear c32
     try clear hz11
     try clear hz13
     try clear hz14
     try clear hz16
     try clear hz17
     try clear hz23
     try clear hz26
     try clear hz30
     try clear hz33
     try clear hz35
     try clear hx310_0
     try clear hx310_1
     try clear hx310_10
     try clear hx310_11
     try clear hx310_12
     try clear hx310_13
     try clear hx310_14
     try clear hx310_15
     try clear hx310_2
     try clear hx310_3
     try clear hx310_4
     try clear hx310_5
     try clear hx310_6
     try clear hx310_7
     try clear hx310_8
     try clear hx310_9
     try clear p2
     try clear p310
     try clear p6
     try clear q310
     obtain ⟨kq, x42_21, rfl, HA, HJ21, BK306, BK311, HB⟩ := hcut
     cases kq with
     | zero => exact absurd HA.out (by simp [bounds_Witness.j1])
     | succ kj21 =>
      have H := HA.out
      clear HA
      simp only [bounds_Witness.j1] at H
      by_cases c36 : x42_21 = true
      ·
       subst c36
       rw [if_pos rfl] at H
       obtain rfl := Option.some.inj H
       go_wp2
       go_ret
       exact ⟨_, by first | rfl | (simp [errW_none, errW_some] <;> rfl) | (simp [*, errW_none, errW_some] <;> rfl), by first | exact Kd.S_nil _ _ _ _ _ | exact Kd.N_nil _ _ _ _ _ | exact Kd.V_nil _ _ _ _ _ | exact Kd.Q_nil _ _ _ _ _ | exact Kd.R_nil _ _ _ _ _, belowA⟩
      ·
       replace c36 := Bool.eq_false_iff.mpr c36
       subst c36
       rw [if_neg (show ¬ (false = true) by decide)] at H
       have H' := Aside0.mk H
       clear H
       go_wp2
       go_loopg [8, 44] kj21 (fun kq v8 v44 w' => ∃ (x8_3 : List (S55)) (x44_3 : Int), v44 = .int .i64 x44_3 ∧ Aside0 (bounds_Witness.l0 kq x8_3 a2 x44_3 l0_0 l0_1 ((rd_T44 l0_1 a1).f0) ((rd_T44 l0_1 a1).f1) ((rd_T44 l0_1 a1).f2) ((rd_T44 l0_1 a1).f3) ((rd_T44 l0_1 a1).f4) ((rd_T44 l0_1 a1).f5) ((rd_T44 l0_1 a1).f6) ((rd_T44 l0_1 a1).f7) ((rd_T44 l0_1 a1).f8) ((rd_T44 l0_1 a1).f9) ((rd_T44 l0_1 a1).f10) ((rd_T44 l0_1 a1).f11) ((rd_T44 l0_1 a1).f12) ((rd_T44 l0_1 a1).f13) ((rd_T44 l0_1 a1).f14) ((rd_T44 l0_1 a1).f15) = some r) ∧ Aside0 (kq ≤ kj21) ∧ Aside0 (Kd.S k55 55 w' w.heap.size (fun _ => True) v8 x8_3) ∧ Aside0 (w'.heap[gb306]? = some (.cells #[(.slice A0_0 l0_0.length c0_0), (.slice (some ad310) l0_1.length c0_1)] 25 (0, 0))) ∧ Aside0 (w'.heap[gb311]? = some (.cells #[.int .i64 ((rd_T44 l0_1 a1).f0), (.slice A310_1 ((rd_T44 l0_1 a1).f1).length c310_1), .string ((rd_T44 l0_1 a1).f2), .int .i64 ((rd_T44 l0_1 a1).f3), (.slice A310_4 ((rd_T44 l0_1 a1).f4).length c310_4), .int .i64 ((rd_T44 l0_1 a1).f5), .int .i64 ((rd_T44 l0_1 a1).f6), .int .i64 ((rd_T44 l0_1 a1).f7), (.slice A310_8 ((rd_T44 l0_1 a1).f8).length c310_8), (.slice A310_9 ((rd_T44 l0_1 a1).f9).length c310_9), .int .i64 ((rd_T44 l0_1 a1).f10), .int .i64 ((rd_T44 l0_1 a1).f11), .int .i64 ((rd_T44 l0_1 a1).f12), (.slice A310_13 ((rd_T44 l0_1 a1).f13).length c310_13), (.slice A310_14 ((rd_T44 l0_1 a1).f14).length c310_14), (.slice A310_15 ((rd_T44 l0_1 a1).f15).length c310_15)] 44 (0, 0))) ∧ Aside0 (Below w.heap.size w w'))
       case atStart => exact ⟨(([] : List (S55))), (0), (by first | rfl | (simp; done) | (simp [*]; done)), H', ⟨Nat.le_refl _⟩, ⟨by first | exact Kd.S_nil _ _ _ _ _ | exact Kd.N_nil _ _ _ _ _ | exact Kd.V_nil _ _ _ _ _ | exact Kd.Q_nil _ _ _ _ _ | exact Kd.R_nil _ _ _ _ _⟩, ⟨blk_move BK306.out⟩, ⟨blk_move BK311.out⟩, ⟨by repeat (first | (with_reducible first | exact HB.out | apply below_alloc | apply pw_below_drewN | apply below_drew1 | refine below_set ?_ GE306.out | refine below_set ?_ GE311.out) | exact HB.out)⟩⟩
       case round =>
        clear H'
        try clear c1
        try clear c2
        try clear p2
        try clear c3
        try clear p3
        try clear q3
        try clear hx3
        try clear p6
        try clear c7
        try clear c9
        try clear c12
        try clear c13
        try clear c19
        try clear c20
        try clear c20b0
        try clear c21
        try clear c21b0
        try clear c25
        try clear c28
        try clear c29
        try clear c31
        try clear p31
        try clear q31
        try clear hx31
        try clear c32
        try clear c36
        try clear hz11
        try clear hz13
        try clear hz14
        try clear hz16
        try clear hz17
        try clear hz23
        try clear hz26
        try clear hz30
        try clear hz33
        try clear hz35
        try clear hx310_0
        try clear hx310_1
        try clear hx310_10
        try clear hx310_11
        try clear hx310_12
        try clear hx310_13
        try clear hx310_14
        try clear hx310_15
        try clear hx310_2
        try clear hx310_3
        try clear hx310_4
        try clear hx310_5
        try clear hx310_6
        try clear hx310_7
        try clear hx310_8
        try clear hx310_9
        try clear p2
        try clear p3
        try clear p31
        try clear p310
        try clear p6
        try clear q3
        try clear q31
        try clear q310
        obtain ⟨x8_3, x44_3, rfl, HA, HK3, HO_8, BK306, BK311, HB⟩ := hrel
        cases gk with
        | zero => exact absurd HA.out (by simp [bounds_Witness.l0])
        | succ k3 =>
         have H := HA.out
         clear HA
         simp only [bounds_Witness.l0] at H
         by_cases c37 : x44_3 < a2
         ·
          rw [if_pos c37] at H
          have c37b0 : decide (x44_3 < a2) = true := decide_eq_true c37
          clear c37
          by_cases c38 : 0 < (((rd_T44 l0_1 a1).f1).length : Int)
          case neg => rw [if_neg c38] at H; exact absurd H (by simp)
          rw [if_pos c38] at H
          have c38b0 : decide (0 < (((rd_T44 l0_1 a1).f1).length : Int)) = true := decide_eq_true c38
          have c38b1 : decide (0 < ((rd_T44 l0_1 a1).f1).length) = true := decide_eq_true (by omega)
          clear c38
          by_cases c39 : 0 ≤ (rd ((rd_T44 l0_1 a1).f1) 0)
          case neg => rw [if_neg c39] at H; exact absurd H (by simp)
          rw [if_pos c39] at H
          have c39b0 : decide (0 ≤ (rd ((rd_T44 l0_1 a1).f1) 0)) = true := decide_eq_true c39
          clear c39
          by_cases c40 : (rd ((rd_T44 l0_1 a1).f1) 0) < (l0_1.length : Int)
          case neg => rw [if_neg c40] at H; exact absurd H (by simp)
          rw [if_pos c40] at H
          have c40b0 : decide ((rd ((rd_T44 l0_1 a1).f1) 0) < (l0_1.length : Int)) = true := decide_eq_true c40
          clear c40
          have H' := Aside0.mk H
          clear H
          try go_wp2_with (first | ((with_reducible refine gate_dst (N := 10) rfl ?_); (try (refine gate_guard (by rfl) ?_; dsimp only)); refine box_event ?hg (N := 10) ?hd (cs := #[.int .i64 0, .slice none 0 0, .int .i64 0]) (t := 55) ?hr ?_; (case hd => rfl); (case hg => rfl); (case hr => first | (go_simp; done) | (go_simp; rfl)); intro gb313 hg w41 hbox hb; have BK313 := Aside0.mk (hbox); have GW313 := Aside0.mk ((by rw [hg]; exact below_sizeA : w.heap.size ≤ gb313)); have GE313 := GW313; have NB306_313 := Aside0.mk ((by rw [hg]; exact Nat.ne_of_lt (blk_ltKA BK306.out) : gb306 ≠ gb313)); have NB313_306 := Aside0.mk NB306_313.out.symm; have NB311_313 := Aside0.mk ((by rw [hg]; exact Nat.ne_of_lt (blk_ltKA BK311.out) : gb311 ≠ gb313)); have NB313_311 := Aside0.mk NB311_313.out.symm; replace HO_8 := Aside0.mk (Kd.S_below (Kd.S_elderB (by (with_reducible repeat (first | apply Kd.S_alloc | apply Kd.S_drewN | apply Kd.S_drew)); exact HO_8.out) gb313 (Nat.le_of_eq hg.symm)) hb); replace BK306 := Aside0.mk (blk_keepA BK306.out hb); replace BK311 := Aside0.mk (blk_keepA BK311.out hb); replace HB := Aside0.mk (below_stepA hb); clear hb hbox hg; have hnb42 := NB313_306.out; have hnc42 := NB306_313.out; have hnb43 := NB313_311.out; have hnc43 := NB311_313.out; have hz44 := blk3 BK313.out))
          have n0_ : Aside0 (Kd.S k55 55 (((w41.setCell ⟨gb313, 0, none⟩ (.int .i64 (wrap64 (30001 * x44_3)))).setCell ⟨gb313, 1, none⟩ (.slice none 0 0)).setCell ⟨gb313, 2, none⟩ (.int .i64 1)) w.heap.size (fun k_ => k_ ≠ gb313) u8 x8_3) := ⟨by (with_reducible repeat (first | apply Kd.S_alloc | apply Kd.S_drewN | apply Kd.S_drew)); exact Kd.S_mono (Kd.S_far (p := ⟨gb313, 2, none⟩) (Kd.S_far (p := ⟨gb313, 1, none⟩) (Kd.S_far (p := ⟨gb313, 0, none⟩) (Kd.S_mono HO_8.out (fun k_ hk => (⟨hk, hk.2⟩ : _ ∧ k_ ≠ gb313))) (fun _ hk => hk.2) (.int .i64 (wrap64 (30001 * x44_3)))) (fun _ hk => hk.2) (.slice none 0 0)) (fun _ hk => hk.2) (.int .i64 1)) (fun _ hk => hk.1.2)⟩
          have n1_ : Aside0 ((((w41.setCell ⟨gb313, 0, none⟩ (.int .i64 (wrap64 (30001 * x44_3)))).setCell ⟨gb313, 1, none⟩ (.slice none 0 0)).setCell ⟨gb313, 2, none⟩ (.int .i64 1)).heap[gb306]? = some (.cells #[.slice A0_0 l0_0.length c0_0, .slice (some ad310) l0_1.length c0_1] 25 (0, 0))) := ⟨blk_move BK306.out⟩
          have n2_ : Aside0 ((((w41.setCell ⟨gb313, 0, none⟩ (.int .i64 (wrap64 (30001 * x44_3)))).setCell ⟨gb313, 1, none⟩ (.slice none 0 0)).setCell ⟨gb313, 2, none⟩ (.int .i64 1)).heap[gb311]? = some (.cells (A44 (rd_T44 l0_1 a1) A310_1 c310_1 A310_4 c310_4 A310_8 c310_8 A310_9 c310_9 A310_13 c310_13 A310_14 c310_14 A310_15 c310_15) 44 (0, 0))) := ⟨blk_move BK311.out⟩
          have n3_ : Aside0 ((((w41.setCell ⟨gb313, 0, none⟩ (.int .i64 (wrap64 (30001 * x44_3)))).setCell ⟨gb313, 1, none⟩ (.slice none 0 0)).setCell ⟨gb313, 2, none⟩ (.int .i64 1)).heap[gb313]? = some (.cells #[.int .i64 (wrap64 (30001 * x44_3)), .slice none 0 0, .int .i64 1] 55 (0, 0))) := ⟨blk_move BK313.out⟩
          have n4_ : Aside0 (Below w.heap.size w (((w41.setCell ⟨gb313, 0, none⟩ (.int .i64 (wrap64 (30001 * x44_3)))).setCell ⟨gb313, 1, none⟩ (.slice none 0 0)).setCell ⟨gb313, 2, none⟩ (.int .i64 1))) := ⟨by repeat (first | (with_reducible first | exact HB.out | apply below_alloc | apply pw_below_drewN | apply below_drew1 | refine below_set ?_ GE306.out | refine below_set ?_ GE311.out | refine below_set ?_ GE313.out) | exact HB.out)⟩
          (try clear HO_8)
          (try clear BK306)
          (try clear BK311)
          (try clear BK313)
          (try clear HB)
          generalize (((w41.setCell ⟨gb313, 0, none⟩ (.int .i64 (wrap64 (30001 * x44_3)))).setCell ⟨gb313, 1, none⟩ (.slice none 0 0)).setCell ⟨gb313, 2, none⟩ (.int .i64 1)) = w45 at n0_ n1_ n2_ n3_ n4_ ⊢
          have HO_8 := n0_
          have BK306 := n1_
          have BK311 := n2_
          have BK313 := n3_
          have HB := n4_
          clear n0_ n1_ n2_ n3_ n4_
          have n0_ := Aside0.mk (Kd.S_drew HO_8.out)
          have n1_ := Aside0.mk (blk_drew BK306.out)
          have n2_ := Aside0.mk (blk_drew BK311.out)
          have n3_ := Aside0.mk (blk_drew BK313.out)
          have n4_ := Aside0.mk (below_drew1 HB.out)
          clear HO_8
          clear BK306
          clear BK311
          clear BK313
          clear HB
          have HO_8 := n0_
          have BK306 := n1_
          have BK311 := n2_
          have BK313 := n3_
          have HB := n4_
          clear n0_ n1_ n2_ n3_ n4_
          have p314 : 0 ≤ (0 : Int) := (by omega)
          have q314 : 0 < (((rd_T44 l0_1 a1).f1).length : Int) := odA
          obtain ⟨ad314, e314, hx314_0⟩ := Kd.at_int HR310_1.out 0 p314 q314
          have hw314_0 := hx314_0
          (try rw [show ((0 : Int)).toNat = 0 from rfl] at hw314_0)
          (try rw [show 0 * 1 = 0 from rfl] at hw314_0)
          (try rw [Addr.add_zero'] at hw314_0)
          cases e314
          have qi314 : (0 < ((rd_T44 l0_1 a1).f1).length) = True := eq_true (by omega)
          (try rw [show ((0 : Int)).toNat = 0 from rfl] at hx314_0)
          (try rw [Addr.add_zero'] at hx314_0)
          replace hx314_0 := pw_cell_below HB.out hx314_0
          replace p314 := eq_true p314
          replace q314 := eq_true q314
          have p315 : 0 ≤ ((rd ((rd_T44 l0_1 a1).f1) 0) : Int) := odA
          have q315 : (rd ((rd_T44 l0_1 a1).f1) 0) < (l0_1.length : Int) := odA
          obtain ⟨ad315, A315_1, c315_1, A315_4, c315_4, A315_8, c315_8, A315_9, c315_9, A315_13, c315_13, A315_14, c315_14, A315_15, c315_15, e315, hx315_0, hx315_1, hx315_2, hx315_3, hx315_4, hx315_5, hx315_6, hx315_7, hx315_8, hx315_9, hx315_10, hx315_11, hx315_12, hx315_13, hx315_14, hx315_15, hl315_1, hi315_1, hl315_4, hi315_4, hl315_8, hi315_8, hl315_9, hi315_9, hl315_13, hi315_13, hl315_14, hi315_14, hl315_15, hi315_15⟩ := at_T44 HR0_1.out (rd ((rd_T44 l0_1 a1).f1) 0) p315 q315
          have hw315_15 := hx315_15
          have hw315_14 := hx315_14
          have hw315_13 := hx315_13
          have hw315_12 := hx315_12
          have hw315_11 := hx315_11
          have hw315_10 := hx315_10
          have hw315_9 := hx315_9
          have hw315_8 := hx315_8
          have hw315_7 := hx315_7
          have hw315_6 := hx315_6
          have hw315_5 := hx315_5
          have hw315_4 := hx315_4
          have hw315_3 := hx315_3
          have hw315_2 := hx315_2
          have hw315_1 := hx315_1
          have hw315_0 := hx315_0
          obtain rfl : ad310 = ad315 := (by injection e315)
          replace hx315_0 := pw_cell_below HB.out hx315_0
          replace hx315_1 := pw_cell_below HB.out hx315_1
          replace hx315_2 := pw_cell_below HB.out hx315_2
          replace hx315_3 := pw_cell_below HB.out hx315_3
          replace hx315_4 := pw_cell_below HB.out hx315_4
          replace hx315_5 := pw_cell_below HB.out hx315_5
          replace hx315_6 := pw_cell_below HB.out hx315_6
          replace hx315_7 := pw_cell_below HB.out hx315_7
          replace hx315_8 := pw_cell_below HB.out hx315_8
          replace hx315_9 := pw_cell_below HB.out hx315_9
          replace hx315_10 := pw_cell_below HB.out hx315_10
          replace hx315_11 := pw_cell_below HB.out hx315_11
          replace hx315_12 := pw_cell_below HB.out hx315_12
          replace hx315_13 := pw_cell_below HB.out hx315_13
          replace hx315_14 := pw_cell_below HB.out hx315_14
          replace hx315_15 := pw_cell_below HB.out hx315_15
          have HR315_1 := Aside0.mk hi315_1
          have HC315_1 := Aside0.mk hl315_1
          clear hi315_1 hl315_1
          have HR315_4 := Aside0.mk hi315_4
          have HC315_4 := Aside0.mk hl315_4
          clear hi315_4 hl315_4
          have HR315_8 := Aside0.mk hi315_8
          have HC315_8 := Aside0.mk hl315_8
          clear hi315_8 hl315_8
          have HR315_9 := Aside0.mk hi315_9
          have HC315_9 := Aside0.mk hl315_9
          clear hi315_9 hl315_9
          have HR315_13 := Aside0.mk hi315_13
          have HC315_13 := Aside0.mk hl315_13
          clear hi315_13 hl315_13
          have HR315_14 := Aside0.mk hi315_14
          have HC315_14 := Aside0.mk hl315_14
          clear hi315_14 hl315_14
          have HR315_15 := Aside0.mk hi315_15
          have HC315_15 := Aside0.mk hl315_15
          clear hi315_15 hl315_15
          replace p315 := eq_true p315
          replace q315 := eq_true q315
          refine start_ (n := 11) (S := fun w' => w'.cell? ⟨gb306, 0, none⟩ = some (.slice A0_0 l0_0.length c0_0) ∧ w'.cell? ⟨gb306, 1, none⟩ = some (.slice (some ad310) l0_1.length c0_1) ∧ w'.cell? ⟨gb311, 0, none⟩ = some (.int .i64 ((rd_T44 l0_1 a1).f0)) ∧ w'.cell? ⟨gb311, 1, none⟩ = some (.slice (some ad314) ((rd_T44 l0_1 a1).f1).length c310_1) ∧ w'.cell? ⟨gb311, 2, none⟩ = some (.string ((rd_T44 l0_1 a1).f2)) ∧ w'.cell? ⟨gb311, 3, none⟩ = some (.int .i64 ((rd_T44 l0_1 a1).f3)) ∧ w'.cell? ⟨gb311, 4, none⟩ = some (.slice A310_4 ((rd_T44 l0_1 a1).f4).length c310_4) ∧ w'.cell? ⟨gb311, 5, none⟩ = some (.int .i64 ((rd_T44 l0_1 a1).f5)) ∧ w'.cell? ⟨gb311, 6, none⟩ = some (.int .i64 ((rd_T44 l0_1 a1).f6)) ∧ w'.cell? ⟨gb311, 7, none⟩ = some (.int .i64 ((rd_T44 l0_1 a1).f7)) ∧ w'.cell? ⟨gb311, 8, none⟩ = some (.slice A310_8 ((rd_T44 l0_1 a1).f8).length c310_8) ∧ w'.cell? ⟨gb311, 9, none⟩ = some (.slice A310_9 ((rd_T44 l0_1 a1).f9).length c310_9) ∧ w'.cell? ⟨gb311, 10, none⟩ = some (.int .i64 ((rd_T44 l0_1 a1).f10)) ∧ w'.cell? ⟨gb311, 11, none⟩ = some (.int .i64 ((rd_T44 l0_1 a1).f11)) ∧ w'.cell? ⟨gb311, 12, none⟩ = some (.int .i64 ((rd_T44 l0_1 a1).f12)) ∧ w'.cell? ⟨gb311, 13, none⟩ = some (.slice A310_13 ((rd_T44 l0_1 a1).f13).length c310_13) ∧ w'.cell? ⟨gb311, 14, none⟩ = some (.slice A310_14 ((rd_T44 l0_1 a1).f14).length c310_14) ∧ w'.cell? ⟨gb311, 15, none⟩ = some (.slice A310_15 ((rd_T44 l0_1 a1).f15).length c310_15) ∧ w'.cell? ad314 = some (.int .i64 (rd ((rd_T44 l0_1 a1).f1) 0)) ∧ w'.cell? (ad310.add (((rd ((rd_T44 l0_1 a1).f1) 0)).toNat * 16)) = some (.int .i64 ((rd_T44 l0_1 (rd ((rd_T44 l0_1 a1).f1) 0)).f0)) ∧ w'.cell? ⟨(ad310.add (((rd ((rd_T44 l0_1 a1).f1) 0)).toNat * 16)).block, (ad310.add (((rd ((rd_T44 l0_1 a1).f1) 0)).toNat * 16)).off + 1, none⟩ = some (.slice A315_1 ((rd_T44 l0_1 (rd ((rd_T44 l0_1 a1).f1) 0)).f1).length c315_1) ∧ w'.cell? ⟨(ad310.add (((rd ((rd_T44 l0_1 a1).f1) 0)).toNat * 16)).block, (ad310.add (((rd ((rd_T44 l0_1 a1).f1) 0)).toNat * 16)).off + 2, none⟩ = some (.string ((rd_T44 l0_1 (rd ((rd_T44 l0_1 a1).f1) 0)).f2)) ∧ w'.cell? ⟨(ad310.add (((rd ((rd_T44 l0_1 a1).f1) 0)).toNat * 16)).block, (ad310.add (((rd ((rd_T44 l0_1 a1).f1) 0)).toNat * 16)).off + 3, none⟩ = some (.int .i64 ((rd_T44 l0_1 (rd ((rd_T44 l0_1 a1).f1) 0)).f3)) ∧ w'.cell? ⟨(ad310.add (((rd ((rd_T44 l0_1 a1).f1) 0)).toNat * 16)).block, (ad310.add (((rd ((rd_T44 l0_1 a1).f1) 0)).toNat * 16)).off + 4, none⟩ = some (.slice A315_4 ((rd_T44 l0_1 (rd ((rd_T44 l0_1 a1).f1) 0)).f4).length c315_4) ∧ w'.cell? ⟨(ad310.add (((rd ((rd_T44 l0_1 a1).f1) 0)).toNat * 16)).block, (ad310.add (((rd ((rd_T44 l0_1 a1).f1) 0)).toNat * 16)).off + 5, none⟩ = some (.int .i64 ((rd_T44 l0_1 (rd ((rd_T44 l0_1 a1).f1) 0)).f5)) ∧ w'.cell? ⟨(ad310.add (((rd ((rd_T44 l0_1 a1).f1) 0)).toNat * 16)).block, (ad310.add (((rd ((rd_T44 l0_1 a1).f1) 0)).toNat * 16)).off + 6, none⟩ = some (.int .i64 ((rd_T44 l0_1 (rd ((rd_T44 l0_1 a1).f1) 0)).f6)) ∧ w'.cell? ⟨(ad310.add (((rd ((rd_T44 l0_1 a1).f1) 0)).toNat * 16)).block, (ad310.add (((rd ((rd_T44 l0_1 a1).f1) 0)).toNat * 16)).off + 7, none⟩ = some (.int .i64 ((rd_T44 l0_1 (rd ((rd_T44 l0_1 a1).f1) 0)).f7)) ∧ w'.cell? ⟨(ad310.add (((rd ((rd_T44 l0_1 a1).f1) 0)).toNat * 16)).block, (ad310.add (((rd ((rd_T44 l0_1 a1).f1) 0)).toNat * 16)).off + 8, none⟩ = some (.slice A315_8 ((rd_T44 l0_1 (rd ((rd_T44 l0_1 a1).f1) 0)).f8).length c315_8) ∧ w'.cell? ⟨(ad310.add (((rd ((rd_T44 l0_1 a1).f1) 0)).toNat * 16)).block, (ad310.add (((rd ((rd_T44 l0_1 a1).f1) 0)).toNat * 16)).off + 9, none⟩ = some (.slice A315_9 ((rd_T44 l0_1 (rd ((rd_T44 l0_1 a1).f1) 0)).f9).length c315_9) ∧ w'.cell? ⟨(ad310.add (((rd ((rd_T44 l0_1 a1).f1) 0)).toNat * 16)).block, (ad310.add (((rd ((rd_T44 l0_1 a1).f1) 0)).toNat * 16)).off + 10, none⟩ = some (.int .i64 ((rd_T44 l0_1 (rd ((rd_T44 l0_1 a1).f1) 0)).f10)) ∧ w'.cell? ⟨(ad310.add (((rd ((rd_T44 l0_1 a1).f1) 0)).toNat * 16)).block, (ad310.add (((rd ((rd_T44 l0_1 a1).f1) 0)).toNat * 16)).off + 11, none⟩ = some (.int .i64 ((rd_T44 l0_1 (rd ((rd_T44 l0_1 a1).f1) 0)).f11)) ∧ w'.cell? ⟨(ad310.add (((rd ((rd_T44 l0_1 a1).f1) 0)).toNat * 16)).block, (ad310.add (((rd ((rd_T44 l0_1 a1).f1) 0)).toNat * 16)).off + 12, none⟩ = some (.int .i64 ((rd_T44 l0_1 (rd ((rd_T44 l0_1 a1).f1) 0)).f12)) ∧ w'.cell? ⟨(ad310.add (((rd ((rd_T44 l0_1 a1).f1) 0)).toNat * 16)).block, (ad310.add (((rd ((rd_T44 l0_1 a1).f1) 0)).toNat * 16)).off + 13, none⟩ = some (.slice A315_13 ((rd_T44 l0_1 (rd ((rd_T44 l0_1 a1).f1) 0)).f13).length c315_13) ∧ w'.cell? ⟨(ad310.add (((rd ((rd_T44 l0_1 a1).f1) 0)).toNat * 16)).block, (ad310.add (((rd ((rd_T44 l0_1 a1).f1) 0)).toNat * 16)).off + 14, none⟩ = some (.slice A315_14 ((rd_T44 l0_1 (rd ((rd_T44 l0_1 a1).f1) 0)).f14).length c315_14) ∧ w'.cell? ⟨(ad310.add (((rd ((rd_T44 l0_1 a1).f1) 0)).toNat * 16)).block, (ad310.add (((rd ((rd_T44 l0_1 a1).f1) 0)).toNat * 16)).off + 15, none⟩ = some (.slice A315_15 ((rd_T44 l0_1 (rd ((rd_T44 l0_1 a1).f1) 0)).f15).length c315_15)) (ds := []) #[O,O,O,O,O,O,O,O,O,O,O] (by kernel_rfl) rfl rfl ⟨(blk_cell BK306.out 0).trans rfl, (blk_cell BK306.out 1).trans rfl, (blk_cell BK311.out 0).trans rfl, (blk_cell BK311.out 1).trans rfl, (blk_cell BK311.out 2).trans rfl, (blk_cell BK311.out 3).trans rfl, (blk_cell BK311.out 4).trans rfl, (blk_cell BK311.out 5).trans rfl, (blk_cell BK311.out 6).trans rfl, (blk_cell BK311.out 7).trans rfl, (blk_cell BK311.out 8).trans rfl, (blk_cell BK311.out 9).trans rfl, (blk_cell BK311.out 10).trans rfl, (blk_cell BK311.out 11).trans rfl, (blk_cell BK311.out 12).trans rfl, (blk_cell BK311.out 13).trans rfl, (blk_cell BK311.out 14).trans rfl, (blk_cell BK311.out 15).trans rfl, (pw_cell_below HB.out hw314_0), (pw_cell_below HB.out hw315_0), (pw_cell_below HB.out hw315_1), (pw_cell_below HB.out hw315_2), (pw_cell_below HB.out hw315_3), (pw_cell_below HB.out hw315_4), (pw_cell_below HB.out hw315_5), (pw_cell_below HB.out hw315_6), (pw_cell_below HB.out hw315_7), (pw_cell_below HB.out hw315_8), (pw_cell_below HB.out hw315_9), (pw_cell_below HB.out hw315_10), (pw_cell_below HB.out hw315_11), (pw_cell_below HB.out hw315_12), (pw_cell_below HB.out hw315_13), (pw_cell_below HB.out hw315_14), (pw_cell_below HB.out hw315_15)⟩ (fun hHeld => ?_); refine with_tabW bounds_Witness.tab11 bounds_Witness.bits11 (fun HT_ HW_ => ?_)
          generalize w45.drew = w46 at HO_8 BK306 BK311 BK313 HB HR315_1 HR315_13 HR315_14 HR315_15 HR315_4 HR315_8 HR315_9 hx314_0 hx315_0 hx315_1 hx315_10 hx315_11 hx315_12 hx315_13 hx315_14 hx315_15 hx315_2 hx315_3 hx315_4 hx315_5 hx315_6 hx315_7 hx315_8 hx315_9 hHeld ⊢
          refine pureA 0 50 #[J,O,O,O,O,O,O,O,O,O,O] ?_
          refine pureA 2 52 #[J,O,J,O,O,O,O,O,O,O,O] ?_
          refine pureA 10 60 #[J,O,J,O,O,O,O,O,O,O,J] ?_
          refine takeA 1 51 #[J,J,J,O,O,O,O,O,O,O,J] ?_
          refine takeA 3 53 #[J,J,J,J,O,O,O,O,O,O,J] ?_
          refine pureA 4 54 #[J,J,J,J,J,O,O,O,O,O,J] ?_
          refine takeA 5 55 #[J,J,J,J,J,J,O,O,O,O,J] ?_
          refine pureA 6 56 #[J,J,J,J,J,J,J,O,O,O,J] ?_
          refine pureA 7 57 #[J,J,J,J,J,J,J,J,O,O,J] ?_
          refine takeA 8 58 #[J,J,J,J,J,J,J,J,J,O,J] ?_
          refine pureA 9 59 #[J,J,J,J,J,J,J,J,J,J,J] ?_
          refine done_ (done_of HT_.out (by kernel_rfl)) ?_
          try go_wp2
          go_loopg [60] k3 (fun kq v60 w' => ∃ (x60_4 : Int) (x314001_4 : List (S70)) (u314001 : Value), v60 = .int .i64 x60_4 ∧ Aside0 (bounds_Witness.l1 kq x8_3 a2 x44_3 ((rd_T44 l0_1 (rd ((rd_T44 l0_1 a1).f1) 0)).f15) (((rd_T44 l0_1 (rd ((rd_T44 l0_1 a1).f1) 0)).f15).length : Int) x60_4 l0_0 l0_1 ((rd_T44 l0_1 a1).f0) ((rd_T44 l0_1 a1).f1) ((rd_T44 l0_1 a1).f2) ((rd_T44 l0_1 a1).f3) ((rd_T44 l0_1 a1).f4) ((rd_T44 l0_1 a1).f5) ((rd_T44 l0_1 a1).f6) ((rd_T44 l0_1 a1).f7) ((rd_T44 l0_1 a1).f8) ((rd_T44 l0_1 a1).f9) ((rd_T44 l0_1 a1).f10) ((rd_T44 l0_1 a1).f11) ((rd_T44 l0_1 a1).f12) ((rd_T44 l0_1 a1).f13) ((rd_T44 l0_1 a1).f14) ((rd_T44 l0_1 a1).f15) (wrap64 (30001 * x44_3)) x314001_4 1 = some r) ∧ Aside0 (kq ≤ k3) ∧ Aside0 (Kd.S k55 55 w' w.heap.size (fun k_ => some k_ ≠ (u314001 : Value).ownBlock ∧ k_ ≠ gb313) u8 x8_3) ∧ Aside0 (Kd.R k70 70 w' w.heap.size (fun _ => True) u314001 x314001_4) ∧ Aside0 (w'.heap[gb306]? = some (.cells #[(.slice A0_0 l0_0.length c0_0), (.slice (some ad310) l0_1.length c0_1)] 25 (0, 0))) ∧ Aside0 (w'.heap[gb311]? = some (.cells #[.int .i64 ((rd_T44 l0_1 a1).f0), (.slice (some ad314) ((rd_T44 l0_1 a1).f1).length c310_1), .string ((rd_T44 l0_1 a1).f2), .int .i64 ((rd_T44 l0_1 a1).f3), (.slice A310_4 ((rd_T44 l0_1 a1).f4).length c310_4), .int .i64 ((rd_T44 l0_1 a1).f5), .int .i64 ((rd_T44 l0_1 a1).f6), .int .i64 ((rd_T44 l0_1 a1).f7), (.slice A310_8 ((rd_T44 l0_1 a1).f8).length c310_8), (.slice A310_9 ((rd_T44 l0_1 a1).f9).length c310_9), .int .i64 ((rd_T44 l0_1 a1).f10), .int .i64 ((rd_T44 l0_1 a1).f11), .int .i64 ((rd_T44 l0_1 a1).f12), (.slice A310_13 ((rd_T44 l0_1 a1).f13).length c310_13), (.slice A310_14 ((rd_T44 l0_1 a1).f14).length c310_14), (.slice A310_15 ((rd_T44 l0_1 a1).f15).length c310_15)] 44 (0, 0))) ∧ Aside0 (w'.heap[gb313]? = some (.cells #[.int .i64 (wrap64 (30001 * x44_3)), u314001, .int .i64 1] 55 (0, 0))) ∧ Aside0 (Below w.heap.size w w'))
          case atStart => exact ⟨(0), (([] : List (S70))), (.slice none 0 0), (by first | rfl | (simp; done) | (simp [*]; done)), H', ⟨Nat.le_refl _⟩, ⟨by (with_reducible repeat (first | apply Kd.S_alloc | apply Kd.S_drewN | apply Kd.S_drew)); exact Kd.S_mono HO_8.out (fun _ hk => ⟨(by simp [Value.ownBlock]), hk⟩)⟩, ⟨by first | exact Kd.R_nil _ _ _ _ _ | exact Kd.N_nil _ _ _ _ _ | exact Kd.V_nil _ _ _ _ _ | exact Kd.Q_nil _ _ _ _ _ | exact Kd.S_nil _ _ _ _ _⟩, ⟨blk_move BK306.out⟩, ⟨blk_move BK311.out⟩, ⟨blk_move BK313.out⟩, ⟨by repeat (first | (with_reducible first | exact HB.out | apply below_alloc | apply pw_below_drewN | apply below_drew1 | refine below_set ?_ GE306.out | refine below_set ?_ GE311.out | refine below_set ?_ GE313.out) | exact HB.out)⟩⟩
          case round =>
           clear H'
           try clear c1
           try clear c2
           try clear p2
           try clear c3
           try clear p3
           try clear q3
           try clear hx3
           try clear qi3
           try clear c4
           try clear p6
           try clear c7
           try clear c9
           try clear c12
           try clear c13
           try clear c19
           try clear c20
           try clear c20b0
           try clear c21
           try clear c21b0
           try clear c25
           try clear c28
           try clear c29
           try clear c31
           try clear p31
           try clear q31
           try clear hx31
           try clear qi31
           try clear c32
           try clear c36
           try clear c37
           try clear c37b0
           try clear c38
           try clear c38b0
           try clear c38b1
           try clear c39
           try clear c39b0
           try clear c40
           try clear c40b0
           try clear c42
           try clear c43
           try clear hz11
           try clear hz13
           try clear hz14
           try clear hz16
           try clear hz17
           try clear hz23
           try clear hz26
           try clear hz30
           try clear hz33
           try clear hz35
           try clear hz44
           try clear hx310_0
           try clear hx310_1
           try clear hx310_10
           try clear hx310_11
           try clear hx310_12
           try clear hx310_13
           try clear hx310_14
           try clear hx310_15
           try clear hx310_2
           try clear hx310_3
           try clear hx310_4
           try clear hx310_5
           try clear hx310_6
           try clear hx310_7
           try clear hx310_8
           try clear hx310_9
           try clear hx314_0
           try clear hx315_0
           try clear hx315_1
           try clear hx315_10
           try clear hx315_11
           try clear hx315_12
           try clear hx315_13
           try clear hx315_14
           try clear hx315_15
           try clear hx315_2
           try clear hx315_3
           try clear hx315_4
           try clear hx315_5
           try clear hx315_6
           try clear hx315_7
           try clear hx315_8
           try clear hx315_9
           try clear p2
           try clear p3
           try clear p31
           try clear p310
           try clear p314
           try clear p315
           try clear p6
           try clear q3
           try clear q31
           try clear q310
           try clear q314
           try clear q315
           obtain ⟨x60_4, x314001_4, u314001, rfl, HA, HK4, HO_8, HO_314001, BK306, BK311, BK313, HB⟩ := hrel
           cases gk with
           | zero => exact absurd HA.out (by simp [bounds_Witness.l1])
           | succ k4 =>
            have H := HA.out
            clear HA
            simp only [bounds_Witness.l1] at H
            by_cases c47 : x60_4 < (((rd_T44 l0_1 (rd ((rd_T44 l0_1 a1).f1) 0)).f15).length : Int)
            ·
             rw [if_pos c47] at H
             have c47b0 : decide (x60_4 < (((rd_T44 l0_1 (rd ((rd_T44 l0_1 a1).f1) 0)).f15).length : Int)) = true := decide_eq_true c47
             clear c47
             by_cases c48 : 0 ≤ x60_4
             case neg => rw [if_neg c48] at H; exact absurd H (by simp)
             rw [if_pos c48] at H
             have c48b0 : decide (0 ≤ x60_4) = true := decide_eq_true c48
             clear c48
             by_cases c49 : x60_4 < (((rd_T44 l0_1 (rd ((rd_T44 l0_1 a1).f1) 0)).f15).length : Int)
             case neg => rw [if_neg c49] at H; exact absurd H (by simp)
             rw [if_pos c49] at H
             have c49b0 : decide (x60_4 < (((rd_T44 l0_1 (rd ((rd_T44 l0_1 a1).f1) 0)).f15).length : Int)) = true := decide_eq_true c49
             clear c49
             replace H := Option.bind_eq_some_iff.mp H
             obtain ⟨t321, A500, H⟩ := H
             try dsimp only at H
             have A50 := Aside0.mk A500
             clear A500
             by_cases c51 : t321 = true
             ·
              subst c51
              rw [if_pos rfl] at H
              replace H := Option.bind_eq_some_iff.mp H
              obtain ⟨⟨t322, t323, t324⟩, A520, H⟩ := H
              try dsimp only at H
              have A52 := Aside0.mk A520
              clear A520
              by_cases c53 : x314001_4.length < 4398046511104
              case neg => rw [if_neg c53] at H; exact absurd H (by simp)
              rw [if_pos c53] at H
              have LMc53 := Aside0.mk c53
              clear c53
              obtain ⟨y325, hy325⟩ : ∃ y_ : List (S70), y_ = (x314001_4 ++ [(⟨t322, t323, t324⟩ : S70)]) := ⟨_, rfl⟩
              replace H : (bounds_Witness.l1 k4 x8_3 a2 x44_3 ((rd_T44 l0_1 (rd ((rd_T44 l0_1 a1).f1) 0)).f15) (((rd_T44 l0_1 (rd ((rd_T44 l0_1 a1).f1) 0)).f15).length : Int) (wrap64 (x60_4 + 1)) l0_0 l0_1 ((rd_T44 l0_1 a1).f0) ((rd_T44 l0_1 a1).f1) ((rd_T44 l0_1 a1).f2) ((rd_T44 l0_1 a1).f3) ((rd_T44 l0_1 a1).f4) ((rd_T44 l0_1 a1).f5) ((rd_T44 l0_1 a1).f6) ((rd_T44 l0_1 a1).f7) ((rd_T44 l0_1 a1).f8) ((rd_T44 l0_1 a1).f9) ((rd_T44 l0_1 a1).f10) ((rd_T44 l0_1 a1).f11) ((rd_T44 l0_1 a1).f12) ((rd_T44 l0_1 a1).f13) ((rd_T44 l0_1 a1).f14) ((rd_T44 l0_1 a1).f15) (wrap64 (30001 * x44_3)) y325 1) = some r := by first | (rw [hy325]; with_reducible exact H) | (have H2_ := (Option.bind_some _ _).symm.trans H; rw [hy325]; with_reducible exact H2_) | (have H2_ := (Option.bind_some _ _).symm.trans H; with_reducible exact H2_) | with_reducible exact H | (rw [hy325]; exact H) | exact H
              have Ny325 := Aside0.mk hy325
              clear hy325
              have H' := Aside0.mk H
              clear H
              have p319 : 0 ≤ (x60_4 : Int) := odA
              have q319 : x60_4 < (((rd_T44 l0_1 (rd ((rd_T44 l0_1 a1).f1) 0)).f15).length : Int) := odA
              obtain ⟨ad319, e319, hx319_0, hx319_1, hx319_2⟩ := at_T50 HR315_15.out x60_4 p319 q319
              cases e319
              replace hx319_0 := pw_cell_below HB.out hx319_0
              replace hx319_1 := pw_cell_below HB.out hx319_1
              replace hx319_2 := pw_cell_below HB.out hx319_2
              replace p319 := eq_true p319
              replace q319 := eq_true q319
              try go_wp2_with (first | ((with_reducible refine gate_dst (N := 12) rfl ?_); (try (refine gate_guard (by rfl) ?_; dsimp only)); refine box_event ?hg (N := 12) ?hd (cs := #[.string (⟨#[]⟩ : ByteArray), .int .i64 0, .string (⟨#[]⟩ : ByteArray)]) (t := 50) ?hr ?_; (case hd => rfl); (case hg => rfl); (case hr => first | (go_simp; done) | (go_simp; rfl)); intro gb320 hg w54 hbox hb; have n0_ := Aside0.mk (Kd.S_below (by (with_reducible repeat (first | apply Kd.S_alloc | apply Kd.S_drewN | apply Kd.S_drew)); exact HO_8.out) hb); have n1_ := Aside0.mk (r_belowA HO_314001.out hb); have n2_ := Aside0.mk (blk_keepA BK306.out hb); have n3_ := Aside0.mk (blk_keepA BK311.out hb); have n4_ := Aside0.mk (blk_keepA BK313.out hb); have n5_ := Aside0.mk (below_stepA hb); have n6_ := Aside0.mk (hbox); have n7_ := Aside0.mk ((by rw [hg]; exact below_sizeA : w.heap.size ≤ gb320)); have n8_ := Aside0.mk ((by rw [hg]; exact below_sizeA : w.heap.size ≤ gb320)); have n9_ := Aside0.mk ((by rw [hg]; exact Nat.ne_of_lt (blk_ltKA BK306.out) : gb306 ≠ gb320)); have n10_ := Aside0.mk ((by rw [hg]; exact Nat.ne_of_gt (blk_ltKA BK306.out) : gb320 ≠ gb306)); have n11_ := Aside0.mk ((by rw [hg]; exact Nat.ne_of_lt (blk_ltKA BK311.out) : gb311 ≠ gb320)); have n12_ := Aside0.mk ((by rw [hg]; exact Nat.ne_of_gt (blk_ltKA BK311.out) : gb320 ≠ gb311)); have n13_ := Aside0.mk ((by rw [hg]; exact Nat.ne_of_lt (blk_ltKA BK313.out) : gb313 ≠ gb320)); have n14_ := Aside0.mk ((by rw [hg]; exact Nat.ne_of_gt (blk_ltKA BK313.out) : gb320 ≠ gb313)); clear HO_8; clear HO_314001; clear BK306; clear BK311; clear BK313; clear HB; have HO_8 := n0_; have HO_314001 := n1_; have BK306 := n2_; have BK311 := n3_; have BK313 := n4_; have HB := n5_; have BK320 := n6_; have GW320 := n7_; have GE320 := n8_; have NB306_320 := n9_; have NB320_306 := n10_; have NB311_320 := n11_; have NB320_311 := n12_; have NB313_320 := n13_; have NB320_313 := n14_; clear n0_ n1_ n2_ n3_ n4_ n5_ n6_ n7_ n8_ n9_ n10_ n11_ n12_ n13_ n14_; clear hb hbox hg; have hnb55 := NB320_306.out; have hnc55 := NB306_320.out; have hnb56 := NB320_311.out; have hnc56 := NB311_320.out; have hnb57 := NB320_313.out; have hnc57 := NB313_320.out; have hz58 := blk3 BK320.out) | ((with_reducible refine gate_callee (f := 28) rfl ?_); refine goesL_ (some 66) rfl rfl Try.func28 (by kernel_rfl) rfl #[.int .i64 ((rd_T50 ((rd_T44 l0_1 (rd ((rd_T44 l0_1 a1).f1) 0)).f15) x60_4).f1), .int .i64 0, .int .i64 2] rfl mapA ?_; (with_reducible refine (bounds_within.calls _ 0 2 true _ A50.out).mono ?_); rintro e w' ⟨rfl, ⟨nd, rfl⟩⟩; refine ⟨_, rfl, ?_⟩))
              have n0_ : Aside0 (Kd.S k55 55 (((w54.setCell ⟨gb320, 0, none⟩ (.string ((rd_T50 ((rd_T44 l0_1 (rd ((rd_T44 l0_1 a1).f1) 0)).f15) x60_4).f0))).setCell ⟨gb320, 1, none⟩ (.int .i64 ((rd_T50 ((rd_T44 l0_1 (rd ((rd_T44 l0_1 a1).f1) 0)).f15) x60_4).f1))).setCell ⟨gb320, 2, none⟩ (.string ((rd_T50 ((rd_T44 l0_1 (rd ((rd_T44 l0_1 a1).f1) 0)).f15) x60_4).f2))) w.heap.size (fun k_ => some k_ ≠ (u314001 : Value).ownBlock ∧ k_ ≠ gb313) u8 x8_3) := ⟨by (with_reducible repeat (first | apply Kd.S_alloc | apply Kd.S_drewN | apply Kd.S_drew)); exact Kd.S_mono (Kd.S_far (p := ⟨gb320, 2, none⟩) (Kd.S_far (p := ⟨gb320, 1, none⟩) (Kd.S_far (p := ⟨gb320, 0, none⟩) (Kd.S_types HO_8.out BK320.out (by decide)) (fun _ hk => hk.2) (.string ((rd_T50 ((rd_T44 l0_1 (rd ((rd_T44 l0_1 a1).f1) 0)).f15) x60_4).f0))) (fun _ hk => hk.2) (.int .i64 ((rd_T50 ((rd_T44 l0_1 (rd ((rd_T44 l0_1 a1).f1) 0)).f15) x60_4).f1))) (fun _ hk => hk.2) (.string ((rd_T50 ((rd_T44 l0_1 (rd ((rd_T44 l0_1 a1).f1) 0)).f15) x60_4).f2))) (fun _ hk => ⟨hk.1.1, hk.1.2⟩)⟩
              have n1_ : Aside0 (Kd.R k70 70 (((w54.setCell ⟨gb320, 0, none⟩ (.string ((rd_T50 ((rd_T44 l0_1 (rd ((rd_T44 l0_1 a1).f1) 0)).f15) x60_4).f0))).setCell ⟨gb320, 1, none⟩ (.int .i64 ((rd_T50 ((rd_T44 l0_1 (rd ((rd_T44 l0_1 a1).f1) 0)).f15) x60_4).f1))).setCell ⟨gb320, 2, none⟩ (.string ((rd_T50 ((rd_T44 l0_1 (rd ((rd_T44 l0_1 a1).f1) 0)).f15) x60_4).f2))) w.heap.size (fun _ => True) u314001 x314001_4) := ⟨by (with_reducible repeat (first | apply Kd.R_alloc | apply Kd.R_drewN | apply Kd.R_drew)); exact Kd.R_mono (Kd.R_far (p := ⟨gb320, 2, none⟩) (Kd.R_far (p := ⟨gb320, 1, none⟩) (Kd.R_far (p := ⟨gb320, 0, none⟩) (Kd.R_types HO_314001.out BK320.out (by decide)) (fun _ hk => hk.2) (.string ((rd_T50 ((rd_T44 l0_1 (rd ((rd_T44 l0_1 a1).f1) 0)).f15) x60_4).f0))) (fun _ hk => hk.2) (.int .i64 ((rd_T50 ((rd_T44 l0_1 (rd ((rd_T44 l0_1 a1).f1) 0)).f15) x60_4).f1))) (fun _ hk => hk.2) (.string ((rd_T50 ((rd_T44 l0_1 (rd ((rd_T44 l0_1 a1).f1) 0)).f15) x60_4).f2))) (fun _ hk => trivial)⟩
              have n2_ : Aside0 ((((w54.setCell ⟨gb320, 0, none⟩ (.string ((rd_T50 ((rd_T44 l0_1 (rd ((rd_T44 l0_1 a1).f1) 0)).f15) x60_4).f0))).setCell ⟨gb320, 1, none⟩ (.int .i64 ((rd_T50 ((rd_T44 l0_1 (rd ((rd_T44 l0_1 a1).f1) 0)).f15) x60_4).f1))).setCell ⟨gb320, 2, none⟩ (.string ((rd_T50 ((rd_T44 l0_1 (rd ((rd_T44 l0_1 a1).f1) 0)).f15) x60_4).f2))).heap[gb306]? = some (.cells #[.slice A0_0 l0_0.length c0_0, .slice (some ad310) l0_1.length c0_1] 25 (0, 0))) := ⟨blk_move BK306.out⟩
              have n3_ : Aside0 ((((w54.setCell ⟨gb320, 0, none⟩ (.string ((rd_T50 ((rd_T44 l0_1 (rd ((rd_T44 l0_1 a1).f1) 0)).f15) x60_4).f0))).setCell ⟨gb320, 1, none⟩ (.int .i64 ((rd_T50 ((rd_T44 l0_1 (rd ((rd_T44 l0_1 a1).f1) 0)).f15) x60_4).f1))).setCell ⟨gb320, 2, none⟩ (.string ((rd_T50 ((rd_T44 l0_1 (rd ((rd_T44 l0_1 a1).f1) 0)).f15) x60_4).f2))).heap[gb311]? = some (.cells (A44 (rd_T44 l0_1 a1) (some ad314) c310_1 A310_4 c310_4 A310_8 c310_8 A310_9 c310_9 A310_13 c310_13 A310_14 c310_14 A310_15 c310_15) 44 (0, 0))) := ⟨blk_move BK311.out⟩
              have n4_ : Aside0 ((((w54.setCell ⟨gb320, 0, none⟩ (.string ((rd_T50 ((rd_T44 l0_1 (rd ((rd_T44 l0_1 a1).f1) 0)).f15) x60_4).f0))).setCell ⟨gb320, 1, none⟩ (.int .i64 ((rd_T50 ((rd_T44 l0_1 (rd ((rd_T44 l0_1 a1).f1) 0)).f15) x60_4).f1))).setCell ⟨gb320, 2, none⟩ (.string ((rd_T50 ((rd_T44 l0_1 (rd ((rd_T44 l0_1 a1).f1) 0)).f15) x60_4).f2))).heap[gb313]? = some (.cells #[.int .i64 (wrap64 (30001 * x44_3)), u314001, .int .i64 1] 55 (0, 0))) := ⟨blk_move BK313.out⟩
              have n5_ : Aside0 ((((w54.setCell ⟨gb320, 0, none⟩ (.string ((rd_T50 ((rd_T44 l0_1 (rd ((rd_T44 l0_1 a1).f1) 0)).f15) x60_4).f0))).setCell ⟨gb320, 1, none⟩ (.int .i64 ((rd_T50 ((rd_T44 l0_1 (rd ((rd_T44 l0_1 a1).f1) 0)).f15) x60_4).f1))).setCell ⟨gb320, 2, none⟩ (.string ((rd_T50 ((rd_T44 l0_1 (rd ((rd_T44 l0_1 a1).f1) 0)).f15) x60_4).f2))).heap[gb320]? = some (.cells #[.string ((rd_T50 ((rd_T44 l0_1 (rd ((rd_T44 l0_1 a1).f1) 0)).f15) x60_4).f0), .int .i64 ((rd_T50 ((rd_T44 l0_1 (rd ((rd_T44 l0_1 a1).f1) 0)).f15) x60_4).f1), .string ((rd_T50 ((rd_T44 l0_1 (rd ((rd_T44 l0_1 a1).f1) 0)).f15) x60_4).f2)] 50 (0, 0))) := ⟨blk_move BK320.out⟩
              have n6_ : Aside0 (Below w.heap.size w (((w54.setCell ⟨gb320, 0, none⟩ (.string ((rd_T50 ((rd_T44 l0_1 (rd ((rd_T44 l0_1 a1).f1) 0)).f15) x60_4).f0))).setCell ⟨gb320, 1, none⟩ (.int .i64 ((rd_T50 ((rd_T44 l0_1 (rd ((rd_T44 l0_1 a1).f1) 0)).f15) x60_4).f1))).setCell ⟨gb320, 2, none⟩ (.string ((rd_T50 ((rd_T44 l0_1 (rd ((rd_T44 l0_1 a1).f1) 0)).f15) x60_4).f2)))) := ⟨by repeat (first | (with_reducible first | exact HB.out | apply below_alloc | apply pw_below_drewN | apply below_drew1 | refine below_set ?_ GE306.out | refine below_set ?_ GE311.out | refine below_set ?_ GE313.out | refine below_set ?_ GE320.out) | exact HB.out)⟩
              (try clear HO_8)
              (try clear HO_314001)
              (try clear BK306)
              (try clear BK311)
              (try clear BK313)
              (try clear BK320)
              (try clear HB)
              generalize (((w54.setCell ⟨gb320, 0, none⟩ (.string ((rd_T50 ((rd_T44 l0_1 (rd ((rd_T44 l0_1 a1).f1) 0)).f15) x60_4).f0))).setCell ⟨gb320, 1, none⟩ (.int .i64 ((rd_T50 ((rd_T44 l0_1 (rd ((rd_T44 l0_1 a1).f1) 0)).f15) x60_4).f1))).setCell ⟨gb320, 2, none⟩ (.string ((rd_T50 ((rd_T44 l0_1 (rd ((rd_T44 l0_1 a1).f1) 0)).f15) x60_4).f2))) = w59 at n0_ n1_ n2_ n3_ n4_ n5_ n6_ ⊢
              have HO_8 := n0_
              have HO_314001 := n1_
              have BK306 := n2_
              have BK311 := n3_
              have BK313 := n4_
              have BK320 := n5_
              have HB := n6_
              clear n0_ n1_ n2_ n3_ n4_ n5_ n6_
              (try (rw [drewN_self w59]; generalize hq_ : World.drewN w59 _ = w59; have n0_ : Aside0 (Kd.R k70 70 w59 w.heap.size (fun _ => True) u314001 x314001_4) := ⟨by rw [← hq_]; exact (by (with_reducible repeat (first | apply Kd.R_alloc | apply Kd.R_drewN | apply Kd.R_drew)); exact HO_314001.out)⟩; have n1_ : Aside0 (Kd.S k55 55 w59 w.heap.size (fun k_ => some k_ ≠ (u314001 : Value).ownBlock ∧ k_ ≠ gb313) u8 x8_3) := ⟨by rw [← hq_]; exact (by (with_reducible repeat (first | apply Kd.S_alloc | apply Kd.S_drewN | apply Kd.S_drew)); exact HO_8.out)⟩; have n2_ : Aside0 (w59.heap[gb306]? = some (.cells #[.slice A0_0 l0_0.length c0_0, .slice (some ad310) l0_1.length c0_1] 25 (0, 0))) := ⟨by rw [← hq_]; exact (blk_move BK306.out)⟩; have n3_ : Aside0 (w59.heap[gb311]? = some (.cells (A44 (rd_T44 l0_1 a1) (some ad314) c310_1 A310_4 c310_4 A310_8 c310_8 A310_9 c310_9 A310_13 c310_13 A310_14 c310_14 A310_15 c310_15) 44 (0, 0))) := ⟨by rw [← hq_]; exact (blk_move BK311.out)⟩; have n4_ : Aside0 (w59.heap[gb313]? = some (.cells #[.int .i64 (wrap64 (30001 * x44_3)), u314001, .int .i64 1] 55 (0, 0))) := ⟨by rw [← hq_]; exact (blk_move BK313.out)⟩; have n5_ : Aside0 (w59.heap[gb320]? = some (.cells #[.string ((rd_T50 ((rd_T44 l0_1 (rd ((rd_T44 l0_1 a1).f1) 0)).f15) x60_4).f0), .int .i64 ((rd_T50 ((rd_T44 l0_1 (rd ((rd_T44 l0_1 a1).f1) 0)).f15) x60_4).f1), .string ((rd_T50 ((rd_T44 l0_1 (rd ((rd_T44 l0_1 a1).f1) 0)).f15) x60_4).f2)] 50 (0, 0))) := ⟨by rw [← hq_]; exact (blk_move BK320.out)⟩; have n6_ : Aside0 (Below w.heap.size w w59) := ⟨by rw [← hq_]; exact belowA⟩; clear HO_314001 HO_8 BK306 BK311 BK313 BK320 HB hq_; have HO_314001 := n0_; have HO_8 := n1_; have BK306 := n2_; have BK311 := n3_; have BK313 := n4_; have BK320 := n5_; have HB := n6_; clear n0_ n1_ n2_ n3_ n4_ n5_ n6_))
              have n0_ := Aside0.mk (Kd.S_drew HO_8.out)
              have n1_ := Aside0.mk (Kd.R_drew HO_314001.out)
              have n2_ := Aside0.mk (blk_drew BK306.out)
              have n3_ := Aside0.mk (blk_drew BK311.out)
              have n4_ := Aside0.mk (blk_drew BK313.out)
              have n5_ := Aside0.mk (blk_drew BK320.out)
              have n6_ := Aside0.mk (below_drew1 HB.out)
              clear HO_8
              clear HO_314001
              clear BK306
              clear BK311
              clear BK313
              clear BK320
              clear HB
              have HO_8 := n0_
              have HO_314001 := n1_
              have BK306 := n2_
              have BK311 := n3_
              have BK313 := n4_
              have BK320 := n5_
              have HB := n6_
              clear n0_ n1_ n2_ n3_ n4_ n5_ n6_
              refine start_ (n := 9) (S := fun w' => w'.cell? ⟨gb313, 0, none⟩ = some (.int .i64 (wrap64 (30001 * x44_3))) ∧ w'.cell? ⟨gb313, 1, none⟩ = some (u314001) ∧ w'.cell? ⟨gb313, 2, none⟩ = some (.int .i64 1) ∧ w'.cell? ⟨gb320, 0, none⟩ = some (.string ((rd_T50 ((rd_T44 l0_1 (rd ((rd_T44 l0_1 a1).f1) 0)).f15) x60_4).f0)) ∧ w'.cell? ⟨gb320, 1, none⟩ = some (.int .i64 ((rd_T50 ((rd_T44 l0_1 (rd ((rd_T44 l0_1 a1).f1) 0)).f15) x60_4).f1)) ∧ w'.cell? ⟨gb320, 2, none⟩ = some (.string ((rd_T50 ((rd_T44 l0_1 (rd ((rd_T44 l0_1 a1).f1) 0)).f15) x60_4).f2))) (ds := [8]) #[O,O,O,O,O,O,O,O,O] (by kernel_rfl) rfl rfl ⟨(blk_cell BK313.out 0).trans rfl, (blk_cell BK313.out 1).trans rfl, (blk_cell BK313.out 2).trans rfl, (blk_cell BK320.out 0).trans rfl, (blk_cell BK320.out 1).trans rfl, (blk_cell BK320.out 2).trans rfl⟩ (fun hHeld => ?_); refine with_tabW bounds_Witness.tab16 bounds_Witness.bits16 (fun HT_ HW_ => ?_)
              generalize w59.drew = w60 at HO_8 HO_314001 BK306 BK311 BK313 BK320 HB hHeld ⊢
              refine pureA 0 68 #[J,O,O,O,O,O,O,O,O] ?_
              refine pureA 2 70 #[J,O,J,O,O,O,O,O,O] ?_
              refine takeA 1 69 #[J,J,J,O,O,O,O,O,O] ?_
              refine takeA 3 71 #[J,J,J,J,O,O,O,O,O] ?_
              refine one_ (i := 4) (N := some 72) #[J,J,J,J,J,O,O,O,O] rfl rfl (one_of HT_.out (by kernel_rfl)) (by decide) (fun K hK => ?_)
              refine goes_ Try.func29 (by kernel_rfl) rfl #[.int .i64 ((rd_T50 ((rd_T44 l0_1 (rd ((rd_T44 l0_1 a1).f1) 0)).f15) x60_4).f1)] (by rfl) rfl rfl mapA ?_
              with_reducible refine (value_Zero.calls _ t322 t323 t324 _ A52.out).mono ?_
              rintro e w61 ⟨rfl, hb⟩
              refine ⟨_, rfl, ?_⟩
              have n0_ := Aside0.mk (Kd.S_below (by (with_reducible repeat (first | apply Kd.S_alloc | apply Kd.S_drewN | apply Kd.S_drew)); exact HO_8.out) hb)
              have n1_ := Aside0.mk (r_belowA HO_314001.out hb)
              have n2_ := Aside0.mk (blk_keepA BK306.out hb)
              have n3_ := Aside0.mk (blk_keepA BK311.out hb)
              have n4_ := Aside0.mk (blk_keepA BK313.out hb)
              have n5_ := Aside0.mk (blk_keepA BK320.out hb)
              have n6_ := Aside0.mk (below_stepA hb)
              clear HO_8
              clear HO_314001
              clear BK306
              clear BK311
              clear BK313
              clear BK320
              clear HB
              have HO_8 := n0_
              have HO_314001 := n1_
              have BK306 := n2_
              have BK311 := n3_
              have BK313 := n4_
              have BK320 := n5_
              have HB := n6_
              clear n0_ n1_ n2_ n3_ n4_ n5_ n6_
              (try clear hb)
              (try clear hb2)
              (try clear hk)
              (try clear hi)
              refine hK.out _ _ ⟨(blk_cell BK313.out 0).trans rfl, (blk_cell BK313.out 1).trans rfl, (blk_cell BK313.out 2).trans rfl, (blk_cell BK320.out 0).trans rfl, (blk_cell BK320.out 1).trans rfl, (blk_cell BK320.out 2).trans rfl⟩ (fun hHeld => ?_)
              clear hK K
              refine norm_ (a' := ?_) ?_ ?_
              rotate_left
              ·
               show Act.put _ (some 72) _ = _
               simp only [Act.put, List.setIfInBounds_toArray, List.set_cons_zero, List.set_cons_succ, i64_w, i32_w]
               rfl
              refine one_ (i := 5) (N := some 73) #[J,J,J,J,J,J,O,O,O] rfl rfl (one_of HT_.out (by kernel_rfl)) (by decide) (fun K hK => ?_)
              refine value_ (w1 := ?_) (v := ?_) (by rfl) rfl ?_ ?_
              rotate_left 2
              ·
               go_simp
               constructor
               ·
                rfl
               ·
                rfl
              refine hK.out _ _ ⟨(blk_cell (blk_alloc BK313.out _) 0).trans rfl, (blk_cell (blk_alloc BK313.out _) 1).trans rfl, (blk_cell (blk_alloc BK313.out _) 2).trans rfl, (blk_cell (blk_alloc BK320.out _) 0).trans rfl, (blk_cell (blk_alloc BK320.out _) 1).trans rfl, (blk_cell (blk_alloc BK320.out _) 2).trans rfl⟩ (fun hHeld => ?_)
              clear hK K
              refine norm_ (a' := ?_) ?_ ?_
              rotate_left
              ·
               show Act.put _ (some 73) _ = _
               simp only [Act.put, List.setIfInBounds_toArray, List.set_cons_zero, List.set_cons_succ, i64_w, i32_w]
               rfl
              refine one_ (i := 6) (N := some 74) #[J,J,J,J,J,J,J,O,O] rfl rfl (one_of HT_.out (by kernel_rfl)) (by decide) (fun K hK => ?_)
              refine Kd.R_append_step k70 (w0 := w) w.heap.size (by rfl) (.tmp 69) (.tmp 73) 53 70 (.agg #[(.int .i64 0), (.int .i64 0), (.string ⟨#[]⟩)]) 32 rfl Try.underlying53 info70 rfl (by decide) (by omega) u314001 x314001_4 (⟨t322, t323, t324⟩ : S70) [.int .i64 t322, .int .i64 t323, .string t324] (fun _ => True) (fun _ => False) rfl rfl ?aP (fun _ hk => hk.elim) ?aF ?aO ?aB ?aS ?aL ?_
              (case aP => exact k70_mkM _ _ _ (⟨t322, t323, t324⟩ : S70))
              (case aB => exact belowA)
              (case aF => exact (fun _ _ => trivial))
              (case aO => exact (by (with_reducible repeat (first | apply Kd.R_alloc | apply Kd.R_drewN | apply Kd.R_drew)); exact HO_314001.out))
              (case aS => exact below_sizeA)
              (case aL => have := LMc53.out; omega)
              intro v326 w62 ho hb hg hat
              rw [← Ny325.out] at ho
              have n0_ := Aside0.mk (Kd.S_after (ok := (fun k_ => k_ ≠ gb313)) (by (with_reducible repeat (first | apply Kd.S_alloc | apply Kd.S_drewN | apply Kd.S_drew)); exact Kd.S_mono HO_8.out (fun _ hk => ⟨hk.2, hk.1⟩)) hg hat)
              have n1_ := Aside0.mk (blk_grown (g := gb306) (o := .cells #[.slice A0_0 l0_0.length c0_0, .slice (some ad310) l0_1.length c0_1] 25 (0, 0)) (blk_move BK306.out) hg (Kd.R_ne HO_314001.out BK306.out (by decide)))
              have n2_ := Aside0.mk (blk_grown (g := gb311) (o := .cells (A44 (rd_T44 l0_1 a1) (some ad314) c310_1 A310_4 c310_4 A310_8 c310_8 A310_9 c310_9 A310_13 c310_13 A310_14 c310_14 A310_15 c310_15) 44 (0, 0)) (blk_move BK311.out) hg (Kd.R_ne HO_314001.out BK311.out (by decide)))
              have n3_ := Aside0.mk (blk_grown (g := gb313) (o := .cells #[.int .i64 (wrap64 (30001 * x44_3)), u314001, .int .i64 1] 55 (0, 0)) (blk_move BK313.out) hg (Kd.R_ne HO_314001.out BK313.out (by decide)))
              have n4_ := Aside0.mk (blk_grown (g := gb320) (o := .cells #[.string ((rd_T50 ((rd_T44 l0_1 (rd ((rd_T44 l0_1 a1).f1) 0)).f15) x60_4).f0), .int .i64 ((rd_T50 ((rd_T44 l0_1 (rd ((rd_T44 l0_1 a1).f1) 0)).f15) x60_4).f1), .string ((rd_T50 ((rd_T44 l0_1 (rd ((rd_T44 l0_1 a1).f1) 0)).f15) x60_4).f2)] 50 (0, 0)) (blk_move BK320.out) hg (Kd.R_ne HO_314001.out BK320.out (by decide)))
              have n5_ := Aside0.mk (hb)
              have n6_ := Aside0.mk (ho)
              clear HO_8
              clear BK306
              clear BK311
              clear BK313
              clear BK320
              clear HB
              clear HO_314001
              have HO_8 := n0_
              have BK306 := n1_
              have BK311 := n2_
              have BK313 := n3_
              have BK320 := n4_
              have HB := n5_
              have HO327 := n6_
              clear n0_ n1_ n2_ n3_ n4_ n5_ n6_
              clear ho hb hg hat
              obtain ⟨Ao63, co63, eo63⟩ := Kd.R_slice HO327.out
              (first | subst eo63 | (injection eo63 with f1_ f2_ f3_; have f4_ := f1_.symm; have f5_ := f3_.symm; clear f1_ f2_ f3_; subst f4_; subst f5_))
              refine hK.out _ _ ⟨(blk_cell BK313.out 0).trans rfl, (blk_cell BK313.out 1).trans rfl, (blk_cell BK313.out 2).trans rfl, (blk_cell BK320.out 0).trans rfl, (blk_cell BK320.out 1).trans rfl, (blk_cell BK320.out 2).trans rfl⟩ (fun hHeld => ?_)
              clear hK K
              refine norm_ (a' := ?_) ?_ ?_
              rotate_left
              ·
               show Act.put _ (some 74) _ = _
               simp only [Act.put, List.setIfInBounds_toArray, List.set_cons_zero, List.set_cons_succ, i64_w, i32_w]
               rfl
              refine pureA 7 75 #[J,J,J,J,J,J,J,J,O] ?_
              refine last_ (i := 8) (N := none) #[J,J,J,J,J,J,J,J,J] rfl rfl (one_of HT_.out (by kernel_rfl)) (by decide) (fun K hK => ?_)
              have hs64 : w62.cell? ⟨gb313, 1, none⟩ = some (u314001) := (blk_cell BK313.out 1).trans rfl
              have hfs64 := blk_frozen BK313.out 1
              have hns64_0 := NB306_313.out
              have hns64_1 := NB311_313.out
              have hns64_3 := NB320_313.out
              have hms64_0 := NB313_306.out
              have hms64_1 := NB313_311.out
              have hms64_3 := NB313_320.out
              refine skip_ (w1 := ?_) (by rfl) rfl ?_ ?_
              rotate_left
              ·
               go_simp
               rfl
              refine hK.out _ _ ?_
              clear hK K
              refine done_ (done_of HT_.out (by kernel_rfl)) ?_
              try go_wp2
              go_roundg k4
              case measure => have := HJ3.out; have := HJ21.out; have := HK3.out; have := HK4.out; omega
              case rel => exact ⟨(wrap64 (x60_4 + 1)), (y325), (.slice Ao63 y325.length co63), (by first | rfl | (simp; done) | (simp [*]; done)), H', ⟨by have := HJ3.out; have := HJ21.out; have := HK3.out; have := HK4.out; omega⟩, ⟨by (with_reducible repeat (first | apply Kd.S_alloc | apply Kd.S_drewN | apply Kd.S_drew)); exact Kd.S_mono (Kd.S_far (p := ⟨gb313, 1, none⟩) (Kd.S_mono HO_8.out (fun k_ hk => (⟨hk, hk.1⟩ : _ ∧ k_ ≠ gb313))) (fun _ hk => hk.2) (.slice Ao63 y325.length co63)) (fun _ hk => ⟨hk.1.2, hk.1.1⟩)⟩, ⟨by (with_reducible repeat (first | apply Kd.R_alloc | apply Kd.R_drewN | apply Kd.R_drew)); exact Kd.R_mono (Kd.R_far (p := ⟨gb313, 1, none⟩) (Kd.R_types HO327.out BK313.out (by decide)) (fun _ hk => hk.2) (.slice Ao63 y325.length co63)) (fun _ hk => trivial)⟩, ⟨blk_move BK306.out⟩, ⟨blk_move BK311.out⟩, ⟨blk_move BK313.out⟩, ⟨by repeat (first | (with_reducible first | exact HB.out | apply below_alloc | apply pw_below_drewN | apply below_drew1 | refine below_set ?_ GE306.out | refine below_set ?_ GE311.out | refine below_set ?_ GE313.out | refine below_set ?_ GE320.out) | exact HB.out)⟩⟩
             ·
              replace c51 := Bool.eq_false_iff.mpr c51
              subst c51
              rw [if_neg (show ¬ (false = true) by decide)] at H
              obtain rfl := Option.some.inj H
              have p319 : 0 ≤ (x60_4 : Int) := odA
              have q319 : x60_4 < (((rd_T44 l0_1 (rd ((rd_T44 l0_1 a1).f1) 0)).f15).length : Int) := odA
              obtain ⟨ad319, e319, hx319_0, hx319_1, hx319_2⟩ := at_T50 HR315_15.out x60_4 p319 q319
              cases e319
              replace hx319_0 := pw_cell_below HB.out hx319_0
              replace hx319_1 := pw_cell_below HB.out hx319_1
              replace hx319_2 := pw_cell_below HB.out hx319_2
              replace p319 := eq_true p319
              replace q319 := eq_true q319
              go_wp2_with (first | ((with_reducible refine gate_dst (N := 12) rfl ?_); (try (refine gate_guard (by rfl) ?_; dsimp only)); refine box_event ?hg (N := 12) ?hd (cs := #[.string (⟨#[]⟩ : ByteArray), .int .i64 0, .string (⟨#[]⟩ : ByteArray)]) (t := 50) ?hr ?_; (case hd => rfl); (case hg => rfl); (case hr => first | (go_simp; done) | (go_simp; rfl)); intro gb320 hg w65 hbox hb; have n0_ := Aside0.mk (Kd.S_below (by (with_reducible repeat (first | apply Kd.S_alloc | apply Kd.S_drewN | apply Kd.S_drew)); exact HO_8.out) hb); have n1_ := Aside0.mk (r_belowA HO_314001.out hb); have n2_ := Aside0.mk (blk_keepA BK306.out hb); have n3_ := Aside0.mk (blk_keepA BK311.out hb); have n4_ := Aside0.mk (blk_keepA BK313.out hb); have n5_ := Aside0.mk (below_stepA hb); have n6_ := Aside0.mk (hbox); have n7_ := Aside0.mk ((by rw [hg]; exact below_sizeA : w.heap.size ≤ gb320)); have n8_ := Aside0.mk ((by rw [hg]; exact below_sizeA : w.heap.size ≤ gb320)); have n9_ := Aside0.mk ((by rw [hg]; exact Nat.ne_of_lt (blk_ltKA BK306.out) : gb306 ≠ gb320)); have n10_ := Aside0.mk ((by rw [hg]; exact Nat.ne_of_gt (blk_ltKA BK306.out) : gb320 ≠ gb306)); have n11_ := Aside0.mk ((by rw [hg]; exact Nat.ne_of_lt (blk_ltKA BK311.out) : gb311 ≠ gb320)); have n12_ := Aside0.mk ((by rw [hg]; exact Nat.ne_of_gt (blk_ltKA BK311.out) : gb320 ≠ gb311)); have n13_ := Aside0.mk ((by rw [hg]; exact Nat.ne_of_lt (blk_ltKA BK313.out) : gb313 ≠ gb320)); have n14_ := Aside0.mk ((by rw [hg]; exact Nat.ne_of_gt (blk_ltKA BK313.out) : gb320 ≠ gb313)); clear HO_8; clear HO_314001; clear BK306; clear BK311; clear BK313; clear HB; have HO_8 := n0_; have HO_314001 := n1_; have BK306 := n2_; have BK311 := n3_; have BK313 := n4_; have HB := n5_; have BK320 := n6_; have GW320 := n7_; have GE320 := n8_; have NB306_320 := n9_; have NB320_306 := n10_; have NB311_320 := n11_; have NB320_311 := n12_; have NB313_320 := n13_; have NB320_313 := n14_; clear n0_ n1_ n2_ n3_ n4_ n5_ n6_ n7_ n8_ n9_ n10_ n11_ n12_ n13_ n14_; clear hb hbox hg; have hnb66 := NB320_306.out; have hnc66 := NB306_320.out; have hnb67 := NB320_311.out; have hnc67 := NB311_320.out; have hnb68 := NB320_313.out; have hnc68 := NB313_320.out; have hz69 := blk3 BK320.out) | ((with_reducible refine gate_callee (f := 28) rfl ?_); refine goesL_ (some 66) rfl rfl Try.func28 (by kernel_rfl) rfl #[.int .i64 ((rd_T50 ((rd_T44 l0_1 (rd ((rd_T44 l0_1 a1).f1) 0)).f15) x60_4).f1), .int .i64 0, .int .i64 2] rfl mapA ?_; (with_reducible refine (bounds_within.calls _ 0 2 false _ A50.out).mono ?_); rintro e w' ⟨rfl, ⟨nd, rfl⟩⟩; refine ⟨_, rfl, ?_⟩))
              go_ret
              exact ⟨_, by first | rfl | (simp [errW_none, errW_some] <;> rfl) | (simp [*, errW_none, errW_some] <;> rfl), by first | exact Kd.S_nil _ _ _ _ _ | exact Kd.N_nil _ _ _ _ _ | exact Kd.V_nil _ _ _ _ _ | exact Kd.Q_nil _ _ _ _ _ | exact Kd.R_nil _ _ _ _ _, belowA⟩
            ·
             rw [if_neg c47] at H
             have c47b0 : decide (x60_4 < (((rd_T44 l0_1 (rd ((rd_T44 l0_1 a1).f1) 0)).f15).length : Int)) = false := decide_eq_false c47
             clear c47
             by_cases c70 : x8_3.length < 3518437208883
             case neg => rw [if_neg c70] at H; exact absurd H (by simp)
             rw [if_pos c70] at H
             have LMc70 := Aside0.mk c70
             clear c70
             obtain ⟨y316, hy316⟩ : ∃ y_ : List (S55), y_ = (x8_3 ++ [(⟨(wrap64 (30001 * x44_3)), x314001_4, 1⟩ : S55)]) := ⟨_, rfl⟩
             replace H : (bounds_Witness.l0 k4 y316 a2 (wrap64 (x44_3 + 1)) l0_0 l0_1 ((rd_T44 l0_1 a1).f0) ((rd_T44 l0_1 a1).f1) ((rd_T44 l0_1 a1).f2) ((rd_T44 l0_1 a1).f3) ((rd_T44 l0_1 a1).f4) ((rd_T44 l0_1 a1).f5) ((rd_T44 l0_1 a1).f6) ((rd_T44 l0_1 a1).f7) ((rd_T44 l0_1 a1).f8) ((rd_T44 l0_1 a1).f9) ((rd_T44 l0_1 a1).f10) ((rd_T44 l0_1 a1).f11) ((rd_T44 l0_1 a1).f12) ((rd_T44 l0_1 a1).f13) ((rd_T44 l0_1 a1).f14) ((rd_T44 l0_1 a1).f15)) = some r := by first | (rw [hy316]; with_reducible exact H) | (have H2_ := (Option.bind_some _ _).symm.trans H; rw [hy316]; with_reducible exact H2_) | (have H2_ := (Option.bind_some _ _).symm.trans H; with_reducible exact H2_) | with_reducible exact H | (rw [hy316]; exact H) | exact H
             have Ny316 := Aside0.mk hy316
             clear hy316
             have H' := Aside0.mk H
             clear H
             have hnb71 := NB313_306.out
             have hnc71 := NB306_313.out
             have hnb72 := NB313_311.out
             have hnc72 := NB311_313.out
             have hz73 := blk3 BK313.out
             obtain ⟨Ao75, co75, eo75⟩ := Kd.R_slice HO_314001.out
             subst eo75
             go_wp2_with (first | ((with_reducible refine gate_builtin (b := .append) (xs := #[.tmp 77, .tmp 79]) rfl ?_); (try (refine gate_guard (by rfl) ?_; dsimp only)); at_builtin; refine Kd.S_append k55 (w0 := w) w.heap.size rfl (.tmp 77) (.tmp 79) 51 55 (.agg #[(.int .i64 0), (.slice none 0 0), (.int .i64 0)]) 40 rfl Try.underlying51 info55 rfl (by decide) (by omega) u8 x8_3 (⟨(wrap64 (30001 * x44_3)), x314001_4, 1⟩ : S55) [.int .i64 (wrap64 (30001 * x44_3)), .slice Ao75 x314001_4.length co75, .int .i64 1] (fun k_ => k_ ≠ gb313) (fun k_ => some k_ = (.slice Ao75 x314001_4.length co75 : Value).ownBlock) rfl rfl ?aP (fun k_ hk_ => ((Kd.R_mono (ok' := fun k_ => ((fun k_ => k_ ≠ gb313)) k_ ∧ some k_ ≠ (u8 : Value).ownBlock) (Kd.R_types (Kd.R_apart' (HO_314001.out) (Kd.S_typed HO_8.out) (by decide)) BK313.out (by decide)) (fun k_ hk => ⟨hk.2, hk.1.2⟩))).1 k_ hk_.symm) ?aF ?aO ?aB ?aS ?aL ?_; (case aP => exact k55_mkM _ _ _ (⟨(wrap64 (30001 * x44_3)), x314001_4, 1⟩ : S55) (Kd.R_mono (Kd.R_tight rfl (Kd.R_mono (ok' := fun k_ => ((fun k_ => k_ ≠ gb313)) k_ ∧ some k_ ≠ (u8 : Value).ownBlock) (Kd.R_types (Kd.R_apart' (HO_314001.out) (Kd.S_typed HO_8.out) (by decide)) BK313.out (by decide)) (fun k_ hk => ⟨hk.2, hk.1.2⟩))) (fun _ h_ => h_))); (case aB => exact belowA); (case aF => exact (fun k_ hk => Kd.freshB (g := gb313) (o := .cells #[.int .i64 (wrap64 (30001 * x44_3)), .slice Ao75 x314001_4.length co75, .int .i64 1] 55 (0, 0)) (blk_move BK313.out) k_ hk)); (case aO => exact (by (with_reducible repeat (first | apply Kd.S_alloc | apply Kd.S_drewN | apply Kd.S_drew)); exact Kd.S_mono HO_8.out (fun k_ hk => ⟨hk.2, fun e_ => hk.1 e_⟩))); (case aS => exact below_sizeA); (case aL => have := LMc70.out; omega); intro v317 w74 ho hb hg hat; rw [← Ny316.out] at ho; have n0_ := Aside0.mk (blk_grown (g := gb306) (o := .cells #[.slice A0_0 l0_0.length c0_0, .slice (some ad310) l0_1.length c0_1] 25 (0, 0)) (blk_move BK306.out) hg (Kd.S_ne HO_8.out BK306.out (by decide))); have n1_ := Aside0.mk (blk_grown (g := gb311) (o := .cells (A44 (rd_T44 l0_1 a1) (some ad314) c310_1 A310_4 c310_4 A310_8 c310_8 A310_9 c310_9 A310_13 c310_13 A310_14 c310_14 A310_15 c310_15) 44 (0, 0)) (blk_move BK311.out) hg (Kd.S_ne HO_8.out BK311.out (by decide))); have n2_ := Aside0.mk (blk_grown (g := gb313) (o := .cells #[.int .i64 (wrap64 (30001 * x44_3)), .slice Ao75 x314001_4.length co75, .int .i64 1] 55 (0, 0)) (blk_move BK313.out) hg (Kd.S_away HO_8.out (fun _ hk => hk.2))); have n3_ := Aside0.mk (hb); have n4_ := Aside0.mk (ho); clear BK306; clear BK311; clear BK313; clear HB; clear HO_8; clear HO_314001; have BK306 := n0_; have BK311 := n1_; have BK313 := n2_; have HB := n3_; have HO318 := n4_; clear n0_ n1_ n2_ n3_ n4_; clear ho hb hg hat))
             go_roundg k4
             case measure => have := HJ3.out; have := HJ21.out; have := HK3.out; have := HK4.out; omega
             case rel => exact ⟨(y316), (wrap64 (x44_3 + 1)), (by first | rfl | (simp; done) | (simp [*]; done)), H', ⟨by have := HJ3.out; have := HJ21.out; have := HK3.out; have := HK4.out; omega⟩, ⟨by (with_reducible repeat (first | apply Kd.S_alloc | apply Kd.S_drewN | apply Kd.S_drew)); exact Kd.S_mono HO318.out (fun _ hk => trivial)⟩, ⟨blk_move BK306.out⟩, ⟨blk_move BK311.out⟩, ⟨by repeat (first | (with_reducible first | exact HB.out | apply below_alloc | apply pw_below_drewN | apply below_drew1 | refine below_set ?_ GE306.out | refine below_set ?_ GE311.out | refine below_set ?_ GE313.out) | exact HB.out)⟩⟩
         ·
          rw [if_neg c37] at H
          have c37b0 : decide (x44_3 < a2) = false := decide_eq_false c37
          clear c37
          obtain rfl := Option.some.inj H
          go_wp2
          go_ret
          exact ⟨_, by first | rfl | (simp [errW_none, errW_some] <;> rfl) | (simp [*, errW_none, errW_some] <;> rfl), by (with_reducible repeat (first | apply Kd.S_alloc | apply Kd.S_drewN | apply Kd.S_drew)); exact HO_8.out, belowA⟩

end Go.Proofs.Yteoljddobfnfiaa.PB
end
