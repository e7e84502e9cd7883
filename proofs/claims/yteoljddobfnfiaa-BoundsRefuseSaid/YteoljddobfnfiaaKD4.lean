/- Part 4 of a proof: texts of this claim, joined by a program of this session's work; what is proved stands in the last part. No condition. -/
import Derived.Test.YteoljddobfnfiaaKD3
section
namespace Go.Proofs.Yteoljddobfnfiaa.PB
open Go.RowKit Go.Proofs.YteoljddobfnfiaaW.PrintWords Go.Proofs.YteoljddobfnfiaaW.PrintLast Go.Proofs.YteoljddobfnfiaaW.PrintMore
attribute [local go_sem] max2_int min2_int max_two min_two max_three min_three max_four min_four
attribute [local go_sem ↓ high] Go.Proofs.Yteoljddobfnfiaa.My.ld44_eq Go.Proofs.Yteoljddobfnfiaa.My.st44_eq Go.Proofs.Yteoljddobfnfiaa.My.ld27_eq Go.Proofs.Yteoljddobfnfiaa.My.st27_eq Go.Proofs.Yteoljddobfnfiaa.My.ld37_eq Go.Proofs.Yteoljddobfnfiaa.My.st37_eq Go.Proofs.Yteoljddobfnfiaa.My.ld65_eq Go.Proofs.Yteoljddobfnfiaa.My.st65_eq
attribute [local go_sem high] Go.Proofs.Yteoljddobfnfiaa.My.ld44_run Go.Proofs.Yteoljddobfnfiaa.My.st44_run Go.Proofs.Yteoljddobfnfiaa.My.ld27_run Go.Proofs.Yteoljddobfnfiaa.My.st27_run Go.Proofs.Yteoljddobfnfiaa.My.ld37_run Go.Proofs.Yteoljddobfnfiaa.My.st37_run Go.Proofs.Yteoljddobfnfiaa.My.ld65_run Go.Proofs.Yteoljddobfnfiaa.My.st65_run
open Go.Proofs.Yteoljddobfnfiaa.My
attribute [local go_sem] cell_map run_store_fnV one_int one_bool one_string one_slice one_fnV
set_option linter.unusedVariables false
set_option linter.unusedSimpArgs false

def erratalaw20_small.f (k : Nat)  : Option (Bool) := (some (([(⟨0, ([] : List Int), (⟨#[]⟩ : ByteArray), 0, ([] : List (S93)), 0, 0, 0, ([] : List Int), ([] : List Int), 0, 0, 0, ([] : List (S97)), ([] : List (S99)), ([] : List (S50))⟩ : S44), (⟨4, (([0] : List Int)), (⟨#[]⟩ : ByteArray), 0, ([] : List (S93)), 0, 60, 0, ([] : List Int), ([] : List Int), 0, 0, 0, ([] : List (S97)), ([] : List (S99)), ([] : List (S50))⟩ : S44)] : List (S44)) : List (S44))).bind fun y197 => ((bounds_Analyze.f k ([] : List (S95)) y197 2 0 10 5 3 20).bind fun bt201 => (if 1 < (y197.length : Int) then ((bounds_Analyze.f k ([] : List (S95)) (y197.set (1 : Int).toNat (⟨(rd_T44 y197 1).f0, (rd_T44 y197 1).f1, (rd_T44 y197 1).f2, (rd_T44 y197 1).f3, (rd_T44 y197 1).f4, (rd_T44 y197 1).f5, (-1), (rd_T44 y197 1).f7, (rd_T44 y197 1).f8, (rd_T44 y197 1).f9, (rd_T44 y197 1).f10, (rd_T44 y197 1).f11, (rd_T44 y197 1).f12, (rd_T44 y197 1).f13, (rd_T44 y197 1).f14, (rd_T44 y197 1).f15⟩ : S44)) 2 0 10 5 3 20).bind fun bt207 => (if bt201.2.2 = 0 then (if bt201.2.1 = (-1) then ((errataref20_Same.f k bt201.1 (([(⟨0, 0, 6, 0⟩ : S37), (⟨59, 59, 360, 474⟩ : S37)] : List (S37)))).bind fun t215 => (if t215 = true then (if bt207.2.2 = 14 then (some (bt207.2.1 == 1)) else (some false)) else (some false))) else (some false)) else (some false))) else (none)))
theorem erratalaw20_small.mono : ∀ k, LeO (erratalaw20_small.f k ) (erratalaw20_small.f (k + 1) ) := by
  intro  k
  unfold erratalaw20_small.f
  repeat' first
      | (with_reducible first | exact bounds_Analyze.mono _ _ _ _ _ _ _ _ _ | exact errataref20_Same.mono _ _ _ | exact LeO.refl _ | exact LeO.none _ | refine LeO.ite ?_ ?_ | refine LeO.bind ?_ (fun _ => ?_))
      | exact bounds_Analyze.mono _ _ _ _ _ _ _ _ _ | exact errataref20_Same.mono _ _ _ | exact LeO.none _ | refine LeO.ite ?_ ?_ | refine LeO.bind ?_ (fun _ => ?_)
set_option maxHeartbeats 8000000 in
set_option maxRecDepth 100000 in
theorem erratalaw20_small.calls (k : Nat)  (r : Bool) (w : World) (h : erratalaw20_small.f k  = some r) :
    Calls Try.prog 7 #[] w fun e w' => e = .returned (.bool r) ∧ Below w.heap.size w w' := by
 have hu27 := Try.underlying27
 have hu44 := Try.underlying44
 have hu25 := Try.underlying25
 have hu37 := Try.underlying37
 have HB := Aside0.mk (Below.refl w.heap.size w)
 have H : ((some (([(⟨0, ([] : List Int), (⟨#[]⟩ : ByteArray), 0, ([] : List (S93)), 0, 0, 0, ([] : List Int), ([] : List Int), 0, 0, 0, ([] : List (S97)), ([] : List (S99)), ([] : List (S50))⟩ : S44), (⟨4, (([0] : List Int)), (⟨#[]⟩ : ByteArray), 0, ([] : List (S93)), 0, 60, 0, ([] : List Int), ([] : List Int), 0, 0, 0, ([] : List (S97)), ([] : List (S99)), ([] : List (S50))⟩ : S44)] : List (S44)) : List (S44))).bind fun y197 => ((bounds_Analyze.f k ([] : List (S95)) y197 2 0 10 5 3 20).bind fun bt201 => (if 1 < (y197.length : Int) then ((bounds_Analyze.f k ([] : List (S95)) (y197.set (1 : Int).toNat (⟨(rd_T44 y197 1).f0, (rd_T44 y197 1).f1, (rd_T44 y197 1).f2, (rd_T44 y197 1).f3, (rd_T44 y197 1).f4, (rd_T44 y197 1).f5, (-1), (rd_T44 y197 1).f7, (rd_T44 y197 1).f8, (rd_T44 y197 1).f9, (rd_T44 y197 1).f10, (rd_T44 y197 1).f11, (rd_T44 y197 1).f12, (rd_T44 y197 1).f13, (rd_T44 y197 1).f14, (rd_T44 y197 1).f15⟩ : S44)) 2 0 10 5 3 20).bind fun bt207 => (if bt201.2.2 = 0 then (if bt201.2.1 = (-1) then ((errataref20_Same.f k bt201.1 (([(⟨0, 0, 6, 0⟩ : S37), (⟨59, 59, 360, 474⟩ : S37)] : List (S37)))).bind fun t215 => (if t215 = true then (if bt207.2.2 = 14 then (some (bt207.2.1 == 1)) else (some false)) else (some false))) else (some false)) else (some false))) else (none)))) = some r := h
 clear h
 obtain ⟨y194, hy194⟩ : ∃ y_ : List Int, y_ = (([0] : List Int)) := ⟨_, rfl⟩
 replace H : ((some (([(⟨0, ([] : List Int), (⟨#[]⟩ : ByteArray), 0, ([] : List (S93)), 0, 0, 0, ([] : List Int), ([] : List Int), 0, 0, 0, ([] : List (S97)), ([] : List (S99)), ([] : List (S50))⟩ : S44), (⟨4, y194, (⟨#[]⟩ : ByteArray), 0, ([] : List (S93)), 0, 60, 0, ([] : List Int), ([] : List Int), 0, 0, 0, ([] : List (S97)), ([] : List (S99)), ([] : List (S50))⟩ : S44)] : List (S44)) : List (S44))).bind fun y197 => ((bounds_Analyze.f k ([] : List (S95)) y197 2 0 10 5 3 20).bind fun bt201 => (if 1 < (y197.length : Int) then ((bounds_Analyze.f k ([] : List (S95)) (y197.set (1 : Int).toNat (⟨(rd_T44 y197 1).f0, (rd_T44 y197 1).f1, (rd_T44 y197 1).f2, (rd_T44 y197 1).f3, (rd_T44 y197 1).f4, (rd_T44 y197 1).f5, (-1), (rd_T44 y197 1).f7, (rd_T44 y197 1).f8, (rd_T44 y197 1).f9, (rd_T44 y197 1).f10, (rd_T44 y197 1).f11, (rd_T44 y197 1).f12, (rd_T44 y197 1).f13, (rd_T44 y197 1).f14, (rd_T44 y197 1).f15⟩ : S44)) 2 0 10 5 3 20).bind fun bt207 => (if bt201.2.2 = 0 then (if bt201.2.1 = (-1) then ((errataref20_Same.f k bt201.1 (([(⟨0, 0, 6, 0⟩ : S37), (⟨59, 59, 360, 474⟩ : S37)] : List (S37)))).bind fun t215 => (if t215 = true then (if bt207.2.2 = 14 then (some (bt207.2.1 == 1)) else (some false)) else (some false))) else (some false)) else (some false))) else (none)))) = some r := by first | (rw [hy194]; with_reducible exact H) | (have H2_ := (Option.bind_some _ _).symm.trans H; rw [hy194]; with_reducible exact H2_) | (have H2_ := (Option.bind_some _ _).symm.trans H; with_reducible exact H2_) | with_reducible exact H | (rw [hy194]; exact H) | exact H
 have Ny194 := Aside0.mk hy194
 clear hy194
 obtain ⟨y197, hy197⟩ : ∃ y_ : List (S44), y_ = (([(⟨0, ([] : List Int), (⟨#[]⟩ : ByteArray), 0, ([] : List (S93)), 0, 0, 0, ([] : List Int), ([] : List Int), 0, 0, 0, ([] : List (S97)), ([] : List (S99)), ([] : List (S50))⟩ : S44), (⟨4, y194, (⟨#[]⟩ : ByteArray), 0, ([] : List (S93)), 0, 60, 0, ([] : List Int), ([] : List Int), 0, 0, 0, ([] : List (S97)), ([] : List (S99)), ([] : List (S50))⟩ : S44)] : List (S44))) := ⟨_, rfl⟩
 replace H : ((bounds_Analyze.f k ([] : List (S95)) y197 2 0 10 5 3 20).bind fun bt201 => (if 1 < (y197.length : Int) then ((bounds_Analyze.f k ([] : List (S95)) (y197.set (1 : Int).toNat (⟨(rd_T44 y197 1).f0, (rd_T44 y197 1).f1, (rd_T44 y197 1).f2, (rd_T44 y197 1).f3, (rd_T44 y197 1).f4, (rd_T44 y197 1).f5, (-1), (rd_T44 y197 1).f7, (rd_T44 y197 1).f8, (rd_T44 y197 1).f9, (rd_T44 y197 1).f10, (rd_T44 y197 1).f11, (rd_T44 y197 1).f12, (rd_T44 y197 1).f13, (rd_T44 y197 1).f14, (rd_T44 y197 1).f15⟩ : S44)) 2 0 10 5 3 20).bind fun bt207 => (if bt201.2.2 = 0 then (if bt201.2.1 = (-1) then ((errataref20_Same.f k bt201.1 (([(⟨0, 0, 6, 0⟩ : S37), (⟨59, 59, 360, 474⟩ : S37)] : List (S37)))).bind fun t215 => (if t215 = true then (if bt207.2.2 = 14 then (some (bt207.2.1 == 1)) else (some false)) else (some false))) else (some false)) else (some false))) else (none))) = some r := by first | (rw [hy197]; with_reducible exact H) | (have H2_ := (Option.bind_some _ _).symm.trans H; rw [hy197]; with_reducible exact H2_) | (have H2_ := (Option.bind_some _ _).symm.trans H; with_reducible exact H2_) | with_reducible exact H | (rw [hy197]; exact H) | exact H
 have Ny197 := Aside0.mk hy197
 clear hy197
 replace H := Option.bind_eq_some_iff.mp H
 obtain ⟨⟨t201, t204, t205⟩, A10, H⟩ := H
 try dsimp only at H
 have A1 := Aside0.mk A10
 clear A10
 by_cases c2 : 1 < (y197.length : Int)
 case neg => rw [if_neg c2] at H; exact absurd H (by simp)
 rw [if_pos c2] at H
 have c2b0 : decide (1 < (y197.length : Int)) = true := decide_eq_true c2
 have c2b1 : decide (1 < y197.length) = true := decide_eq_true (by omega)
 clear c2
 obtain ⟨y206, hy206⟩ : ∃ y_ : List (S44), y_ = (y197.set (1 : Int).toNat (⟨(rd_T44 y197 1).f0, (rd_T44 y197 1).f1, (rd_T44 y197 1).f2, (rd_T44 y197 1).f3, (rd_T44 y197 1).f4, (rd_T44 y197 1).f5, (-1), (rd_T44 y197 1).f7, (rd_T44 y197 1).f8, (rd_T44 y197 1).f9, (rd_T44 y197 1).f10, (rd_T44 y197 1).f11, (rd_T44 y197 1).f12, (rd_T44 y197 1).f13, (rd_T44 y197 1).f14, (rd_T44 y197 1).f15⟩ : S44)) := ⟨_, rfl⟩
 replace H : ((bounds_Analyze.f k ([] : List (S95)) y206 2 0 10 5 3 20).bind fun bt207 => (if t205 = 0 then (if t204 = (-1) then ((errataref20_Same.f k t201 (([(⟨0, 0, 6, 0⟩ : S37), (⟨59, 59, 360, 474⟩ : S37)] : List (S37)))).bind fun t215 => (if t215 = true then (if bt207.2.2 = 14 then (some (bt207.2.1 == 1)) else (some false)) else (some false))) else (some false)) else (some false))) = some r := by first | (rw [hy206]; with_reducible exact H) | (have H2_ := (Option.bind_some _ _).symm.trans H; rw [hy206]; with_reducible exact H2_) | (have H2_ := (Option.bind_some _ _).symm.trans H; with_reducible exact H2_) | with_reducible exact H | (rw [hy206]; exact H) | exact H
 have Ny206 := Aside0.mk hy206
 clear hy206
 replace H := Option.bind_eq_some_iff.mp H
 obtain ⟨⟨t207, t210, t211⟩, A40, H⟩ := H
 try dsimp only at H
 have A4 := Aside0.mk A40
 clear A40
 by_cases c5 : t205 = 0
 ·
  rw [if_pos c5] at H
  have c5b0 : (t205 == 0) = true := beq_iff_eq.mpr c5
  have c5b1 : (t205 != 0) = false := bne_eq_false_iff_eq.mpr c5
  clear c5
  by_cases c6 : t204 = (-1)
  ·
   rw [if_pos c6] at H
   have c6b0 : (t204 == (-1)) = true := beq_iff_eq.mpr c6
   have c6b1 : (t204 != (-1)) = false := bne_eq_false_iff_eq.mpr c6
   clear c6
   obtain ⟨y212, hy212⟩ : ∃ y_ : List (S37), y_ = (([(⟨0, 0, 6, 0⟩ : S37), (⟨59, 59, 360, 474⟩ : S37)] : List (S37))) := ⟨_, rfl⟩
   replace H : ((errataref20_Same.f k t201 y212).bind fun t215 => (if t215 = true then (if t211 = 14 then (some (t210 == 1)) else (some false)) else (some false))) = some r := by first | (rw [hy212]; with_reducible exact H) | (have H2_ := (Option.bind_some _ _).symm.trans H; rw [hy212]; with_reducible exact H2_) | (have H2_ := (Option.bind_some _ _).symm.trans H; with_reducible exact H2_) | with_reducible exact H | (rw [hy212]; exact H) | exact H
   have Ny212 := Aside0.mk hy212
   clear hy212
   replace H := Option.bind_eq_some_iff.mp H
   obtain ⟨t215, A70, H⟩ := H
   try dsimp only at H
   have A7 := Aside0.mk A70
   clear A70
   by_cases c8 : t215 = true
   ·
    subst c8
    rw [if_pos rfl] at H
    by_cases c9 : t211 = 14
    ·
     rw [if_pos c9] at H
     have c9b0 : (t211 == 14) = true := beq_iff_eq.mpr c9
     have c9b1 : (t211 != 14) = false := bne_eq_false_iff_eq.mpr c9
     clear c9
     obtain rfl := Option.some.inj H
     go_enter Try.func7, Try.ntmps7
     go_wp2_with (first | ((with_reducible refine gate_dst (N := 1) rfl ?_); (try (refine gate_guard (by rfl) ?_; dsimp only)); refine box_event ?hg (N := 1) ?hd (cs := #[.int .i64 0, .int .i64 0, .int .i64 0, .int .i64 0, .int .i64 0, .int .i64 0]) (t := 27) ?hr ?_; (case hd => rfl); (case hg => rfl); (case hr => first | (go_simp; done) | (go_simp; rfl)); intro gb193 hg w10 hbox hb; have BK193 := Aside0.mk (hbox); have GW193 := Aside0.mk ((by rw [hg]; exact below_sizeA : w.heap.size ≤ gb193)); have GE193 := GW193; replace HB := Aside0.mk (below_stepA hb); clear hb hbox hg; have hz11 := blk6 BK193.out) | ((with_reducible refine gate_dst (N := 11) rfl ?_); (try (refine gate_guard (by rfl) ?_; dsimp only)); refine Kd.R_lit (Kd.int .i64) _ 3 ?hg (N := 11) ?hd (xs := ([0] : List Int)) (inner := [.int .i64 0]) (ok := fun _ => True) (okp := fun _ => True) ?hr ?hp (fun _ hk => hk) trivial (Below.refl _ _) (Nat.le_refl _) (by simp) ?_; (case hd => rfl); (case hg => rfl); (case hr => first | (go_simp; done) | (go_simp; rfl)); (case hp => exact (Reps.one (show Kd.M (Kd.int .i64) _ _ _ 0 [.int .i64 0] from rfl) (Reps.none _ _))); intro v195 w12 ho13 hb hg_ hnew_; clear hg_ hnew_; (first | rw [← Ny194.out] at ho13 | (simp only [Int.reduceToNat] at ho13; rw [← Ny194.out] at ho13)); have HO196 := Aside0.mk (Kd.R_lower ho13 below_sizeA); replace BK193 := Aside0.mk (blk_below (g := gb193) (o := .cells #[.int .i64 2, .int .i64 0, .int .i64 10, .int .i64 5, .int .i64 3, .int .i64 20] 27 (0, 0)) (blk_move BK193.out) hb); replace HB := Aside0.mk (below_stepA hb); clear hb ho13; obtain ⟨Ao14, co14, eo14⟩ := Kd.R_slice HO196.out; subst eo14) | ((with_reducible refine gate_dst (N := 13) rfl ?_); (try (refine gate_guard (by rfl) ?_; dsimp only)); refine Kd.N_lit k44 _ 44 ?hg (N' := 13) ?hd (xs := ([(⟨0, ([] : List Int), (⟨#[]⟩ : ByteArray), 0, ([] : List (S93)), 0, 0, 0, ([] : List Int), ([] : List Int), 0, 0, 0, ([] : List (S97)), ([] : List (S99)), ([] : List (S50))⟩ : S44), (⟨4, y194, (⟨#[]⟩ : ByteArray), 0, ([] : List (S93)), 0, 60, 0, ([] : List Int), ([] : List Int), 0, 0, 0, ([] : List (S97)), ([] : List (S99)), ([] : List (S50))⟩ : S44)] : List (S44))) (inner := [.int .i64 0, .slice none 0 0, .string (⟨#[]⟩ : ByteArray), .int .i64 0, .slice none 0 0, .int .i64 0, .int .i64 0, .int .i64 0, .slice none 0 0, .slice none 0 0, .int .i64 0, .int .i64 0, .int .i64 0, .slice none 0 0, .slice none 0 0, .slice none 0 0, .int .i64 4, .slice Ao14 y194.length co14, .string (⟨#[]⟩ : ByteArray), .int .i64 0, .slice none 0 0, .int .i64 0, .int .i64 60, .int .i64 0, .slice none 0 0, .slice none 0 0, .int .i64 0, .int .i64 0, .int .i64 0, .slice none 0 0, .slice none 0 0, .slice none 0 0]) (ok := (fun k_ => k_ ≠ gb193)) (okp := (fun k_ => k_ ≠ gb193)) ?hr ?hp (fun _ hk => hk) ((show ∀ k_, w12.heap.size ≤ k_ → (fun k_ => k_ ≠ gb193) k_ from fun k_ hk => Kd.freshB (g := gb193) (o := .cells #[.int .i64 2, .int .i64 0, .int .i64 10, .int .i64 5, .int .i64 3, .int .i64 20] 27 (0, 0)) (blk_move BK193.out) k_ hk) _ (Nat.le_refl _)) (Below.refl _ _) (Nat.le_refl _) (by simp) ?_; (case hd => rfl); (case hg => rfl); (case hr => first | (go_simp; done) | (go_simp; rfl)); (case hp => exact (Reps.front (show Kd.FK k44 _ _ (⟨0, ([] : List Int), (⟨#[]⟩ : ByteArray), 0, ([] : List (S93)), 0, 0, 0, ([] : List Int), ([] : List Int), 0, 0, 0, ([] : List (S97)), ([] : List (S99)), ([] : List (S50))⟩ : S44) [.int .i64 0, .slice none 0 0, .string (⟨#[]⟩ : ByteArray), .int .i64 0, .slice none 0 0, .int .i64 0, .int .i64 0, .int .i64 0, .slice none 0 0, .slice none 0 0, .int .i64 0, .int .i64 0, .int .i64 0, .slice none 0 0, .slice none 0 0, .slice none 0 0] from (k44_mkF _ _ (⟨0, ([] : List Int), (⟨#[]⟩ : ByteArray), 0, ([] : List (S93)), 0, 0, 0, ([] : List Int), ([] : List Int), 0, 0, 0, ([] : List (S97)), ([] : List (S99)), ([] : List (S50))⟩ : S44) (Nat.le_refl _) (Kd.F_nil _ _ _) (Nat.le_refl _) (Kd.F_nil _ _ _) (Nat.le_refl _) (Kd.F_nil _ _ _) (Nat.le_refl _) (Kd.F_nil _ _ _) (Nat.le_refl _) (Kd.F_nil _ _ _) (Nat.le_refl _) (Kd.F_nil _ _ _) (Nat.le_refl _) (Kd.F_nil _ _ _))) rfl (Reps.front (show Kd.FK k44 _ _ (⟨4, y194, (⟨#[]⟩ : ByteArray), 0, ([] : List (S93)), 0, 60, 0, ([] : List Int), ([] : List Int), 0, 0, 0, ([] : List (S97)), ([] : List (S99)), ([] : List (S50))⟩ : S44) [.int .i64 4, .slice Ao14 y194.length co14, .string (⟨#[]⟩ : ByteArray), .int .i64 0, .slice none 0 0, .int .i64 0, .int .i64 60, .int .i64 0, .slice none 0 0, .slice none 0 0, .int .i64 0, .int .i64 0, .int .i64 0, .slice none 0 0, .slice none 0 0, .slice none 0 0] from (k44_mkF _ _ (⟨4, y194, (⟨#[]⟩ : ByteArray), 0, ([] : List (S93)), 0, 60, 0, ([] : List Int), ([] : List Int), 0, 0, 0, ([] : List (S97)), ([] : List (S99)), ([] : List (S50))⟩ : S44) (Kd.R_reads' (Kd.R_mono (ok' := (fun k_ => k_ ≠ gb193)) (Kd.R_types (HO196.out) BK193.out (by decide)) (fun k_ hk => hk.2))).2.1 (Kd.R_F (Kd.R_mono (ok' := (fun k_ => k_ ≠ gb193)) (Kd.R_types (HO196.out) BK193.out (by decide)) (fun k_ hk => hk.2))) (Nat.le_refl _) (Kd.F_nil _ _ _) (Nat.le_refl _) (Kd.F_nil _ _ _) (Nat.le_refl _) (Kd.F_nil _ _ _) (Nat.le_refl _) (Kd.F_nil _ _ _) (Nat.le_refl _) (Kd.F_nil _ _ _) (Nat.le_refl _) (Kd.F_nil _ _ _))) rfl (Reps.none _ _) rfl) rfl)); intro v198 w15 ho16 hb hg_ hnew_; clear hg_ hnew_; (first | rw [← Ny197.out] at ho16 | (simp only [Int.reduceToNat] at ho16; rw [← Ny197.out] at ho16)); have n0_ := Aside0.mk (Kd.N_lower ho16 below_sizeA); have n1_ := Aside0.mk (blk_keepA BK193.out hb); have n2_ := Aside0.mk (below_stepA hb); clear BK193; clear HB; clear HO196; have HO199 := n0_; have BK193 := n1_; have HB := n2_; clear n0_ n1_ n2_; clear hb ho16; obtain ⟨Ao17, co17, eo17⟩ := Kd.N_slice HO199.out; subst eo17) | ((with_reducible refine gate_dst (N := 2) rfl ?_); (try (refine gate_guard (by rfl) ?_; dsimp only)); refine box_event ?hg (N := 2) ?hd (cs := #[.slice none 0 0, .slice none 0 0]) (t := 25) ?hr ?_; (case hd => rfl); (case hg => rfl); (case hr => first | (go_simp; done) | (go_simp; rfl)); intro gb200 hg w18 hbox hb; have BK200 := Aside0.mk (hbox); have GW200 := Aside0.mk ((by rw [hg]; exact below_sizeA : w.heap.size ≤ gb200)); have GE200 := GW200; have NB193_200 := Aside0.mk ((by rw [hg]; exact Nat.ne_of_lt (blk_ltKA BK193.out) : gb193 ≠ gb200)); have NB200_193 := Aside0.mk NB193_200.out.symm; replace HO199 := Aside0.mk (Kd.N_below (Kd.N_elderB (by (with_reducible repeat (first | apply Kd.N_alloc | apply Kd.N_drewN | apply Kd.N_drew)); exact HO199.out) gb200 (Nat.le_of_eq hg.symm)) hb); replace BK193 := Aside0.mk (blk_keepA BK193.out hb); replace HB := Aside0.mk (below_stepA hb); clear hb hbox hg; have hnb19 := NB200_193.out; have hnc19 := NB193_200.out; have hz20 := blk2 BK200.out; have hz21 := blk6 BK193.out) | ((with_reducible refine gate_callee (f := 9) rfl ?_); refine goesL_ (some 18) rfl rfl Try.func9 (by kernel_rfl) rfl #[.agg #[.slice none 0 0, .slice Ao17 y197.length co17], .agg #[.int .i64 2, .int .i64 0, .int .i64 10, .int .i64 5, .int .i64 3, .int .i64 20]] rfl mapA ?_; (refine (bounds_Analyze.calls k _ _ ([] : List (S95)) _ _ y197 2 0 10 5 3 20 t201 t204 t205 _ ?side1 ?side2 ?side3 ?side4 A1.out).mono ?_); (case side1 => exact Kd.C_nil _ _); (case side2 => exact Nat.le_refl _); (case side3 => refine (Kd.N_reads' (e := 44) (base := w.heap.size) (ok := fun k_ => (k_ ≠ gb193 ∧ k_ ≠ gb200)) (n := y197.length) (c := co17) ?_).2.2; exact (by (with_reducible repeat (first | apply Kd.N_alloc | apply Kd.N_drewN | apply Kd.N_drew)); exact (Kd.N_mono (Kd.N_far (p := ⟨gb200, 1, none⟩) (Kd.N_far (p := ⟨gb200, 0, none⟩) (Kd.N_mono HO199.out (fun k_ hk => (⟨hk, hk.2⟩ : _ ∧ k_ ≠ gb200))) (fun _ hk => hk.2) (.slice none 0 0)) (fun _ hk => hk.2) (.slice Ao17 y197.length co17)) (fun _ h_ => h_.1)))); (case side4 => exact (Kd.N_reads' HO199.out).2.1); rintro e w22 ⟨v202, rfl, ho0, hb⟩; refine ⟨_, rfl, ?_⟩; have HO203 := Aside0.mk (Kd.R_lower ho0 below_sizeA); replace HO199 := Aside0.mk (Kd.N_elder' (by (with_reducible repeat (first | apply Kd.N_alloc | apply Kd.N_drewN | apply Kd.N_drew)); exact (Kd.N_mono (Kd.N_far (p := ⟨gb200, 1, none⟩) (Kd.N_far (p := ⟨gb200, 0, none⟩) (Kd.N_mono HO199.out (fun k_ hk => (⟨hk, hk.2⟩ : _ ∧ k_ ≠ gb200))) (fun _ hk => hk.2) (.slice none 0 0)) (fun _ hk => hk.2) (.slice Ao17 y197.length co17)) (fun _ h_ => h_.1))) (Kd.R_base ho0) hb); replace BK193 := Aside0.mk (blk_keepA BK193.out hb); replace BK200 := Aside0.mk (blk_below (g := gb200) (o := .cells #[.slice none 0 0, .slice Ao17 y197.length co17] 25 (0, 0)) (blk_move BK200.out) hb); replace HB := Aside0.mk (below_stepA hb); (try clear hb); (try clear ho0); have hz23 := blk2 BK200.out; have p3 : 0 ≤ (1 : Int) := (by omega); have q3 : (1 : Int) < ((y197.length : Int) : Int) := odA; have qi3 : (1 < y197.length) = True := eq_true (by omega); obtain ⟨go3, co3, eo3, gb3, gl3, cl3, HG3⟩ := Kd.N_form HO199.out (by omega); (first | cases eo3 | (injection eo3 with ea_ en_ ec_; (first | subst ea_ | (injection ea_ with ea_; subst ea_)); subst ec_; clear en_)); have GB3 := Aside0.mk gb3; have GG3 := Aside0.mk HG3; clear gb3 gl3 HG3; obtain ⟨ce3, hcl3, hM3, hcc3, hfr3⟩ := Kd.N_elem HO199.out z44 (1 : Int) p3 q3; obtain ⟨ua3_1, uc3_1, ua3_4, uc3_4, ua3_8, uc3_8, ua3_9, uc3_9, ua3_13, uc3_13, ua3_14, uc3_14, ua3_15, uc3_15, rfl, ul3_1, ge3_1, ul3_4, ge3_4, ul3_8, ge3_8, ul3_9, ge3_9, ul3_13, ge3_13, ul3_14, ge3_14, ul3_15, ge3_15⟩ := k44_openF hM3; have hx3_0 : w22.cell? ⟨go3, (1 : Int).toNat * 16, none⟩ = some (.int .i64 ((rd_T44 y197 1).f0)) := hcc3 0 _ rfl; have hx3_1 : w22.cell? ⟨go3, (1 : Int).toNat * 16 + 1, none⟩ = some (.slice ua3_1 ((rd_T44 y197 1).f1).length uc3_1) := hcc3 1 _ rfl; have hx3_2 : w22.cell? ⟨go3, (1 : Int).toNat * 16 + 2, none⟩ = some (.string ((rd_T44 y197 1).f2)) := hcc3 2 _ rfl; have hx3_3 : w22.cell? ⟨go3, (1 : Int).toNat * 16 + 3, none⟩ = some (.int .i64 ((rd_T44 y197 1).f3)) := hcc3 3 _ rfl; have hx3_4 : w22.cell? ⟨go3, (1 : Int).toNat * 16 + 4, none⟩ = some (.slice ua3_4 ((rd_T44 y197 1).f4).length uc3_4) := hcc3 4 _ rfl; have hx3_5 : w22.cell? ⟨go3, (1 : Int).toNat * 16 + 5, none⟩ = some (.int .i64 ((rd_T44 y197 1).f5)) := hcc3 5 _ rfl; have hx3_6 : w22.cell? ⟨go3, (1 : Int).toNat * 16 + 6, none⟩ = some (.int .i64 ((rd_T44 y197 1).f6)) := hcc3 6 _ rfl; have hx3_7 : w22.cell? ⟨go3, (1 : Int).toNat * 16 + 7, none⟩ = some (.int .i64 ((rd_T44 y197 1).f7)) := hcc3 7 _ rfl; have hx3_8 : w22.cell? ⟨go3, (1 : Int).toNat * 16 + 8, none⟩ = some (.slice ua3_8 ((rd_T44 y197 1).f8).length uc3_8) := hcc3 8 _ rfl; have hx3_9 : w22.cell? ⟨go3, (1 : Int).toNat * 16 + 9, none⟩ = some (.slice ua3_9 ((rd_T44 y197 1).f9).length uc3_9) := hcc3 9 _ rfl; have hx3_10 : w22.cell? ⟨go3, (1 : Int).toNat * 16 + 10, none⟩ = some (.int .i64 ((rd_T44 y197 1).f10)) := hcc3 10 _ rfl; have hx3_11 : w22.cell? ⟨go3, (1 : Int).toNat * 16 + 11, none⟩ = some (.int .i64 ((rd_T44 y197 1).f11)) := hcc3 11 _ rfl; have hx3_12 : w22.cell? ⟨go3, (1 : Int).toNat * 16 + 12, none⟩ = some (.int .i64 ((rd_T44 y197 1).f12)) := hcc3 12 _ rfl; have hx3_13 : w22.cell? ⟨go3, (1 : Int).toNat * 16 + 13, none⟩ = some (.slice ua3_13 ((rd_T44 y197 1).f13).length uc3_13) := hcc3 13 _ rfl; have hx3_14 : w22.cell? ⟨go3, (1 : Int).toNat * 16 + 14, none⟩ = some (.slice ua3_14 ((rd_T44 y197 1).f14).length uc3_14) := hcc3 14 _ rfl; have hx3_15 : w22.cell? ⟨go3, (1 : Int).toNat * 16 + 15, none⟩ = some (.slice ua3_15 ((rd_T44 y197 1).f15).length uc3_15) := hcc3 15 _ rfl; have hf3_0 : w22.frozen? ⟨go3, (1 : Int).toNat * 16, none⟩ = false := hfr3 0; have hf3_1 : w22.frozen? ⟨go3, (1 : Int).toNat * 16 + 1, none⟩ = false := hfr3 1; have hf3_2 : w22.frozen? ⟨go3, (1 : Int).toNat * 16 + 2, none⟩ = false := hfr3 2; have hf3_3 : w22.frozen? ⟨go3, (1 : Int).toNat * 16 + 3, none⟩ = false := hfr3 3; have hf3_4 : w22.frozen? ⟨go3, (1 : Int).toNat * 16 + 4, none⟩ = false := hfr3 4; have hf3_5 : w22.frozen? ⟨go3, (1 : Int).toNat * 16 + 5, none⟩ = false := hfr3 5; have hf3_6 : w22.frozen? ⟨go3, (1 : Int).toNat * 16 + 6, none⟩ = false := hfr3 6; have hf3_7 : w22.frozen? ⟨go3, (1 : Int).toNat * 16 + 7, none⟩ = false := hfr3 7; have hf3_8 : w22.frozen? ⟨go3, (1 : Int).toNat * 16 + 8, none⟩ = false := hfr3 8; have hf3_9 : w22.frozen? ⟨go3, (1 : Int).toNat * 16 + 9, none⟩ = false := hfr3 9; have hf3_10 : w22.frozen? ⟨go3, (1 : Int).toNat * 16 + 10, none⟩ = false := hfr3 10; have hf3_11 : w22.frozen? ⟨go3, (1 : Int).toNat * 16 + 11, none⟩ = false := hfr3 11; have hf3_12 : w22.frozen? ⟨go3, (1 : Int).toNat * 16 + 12, none⟩ = false := hfr3 12; have hf3_13 : w22.frozen? ⟨go3, (1 : Int).toNat * 16 + 13, none⟩ = false := hfr3 13; have hf3_14 : w22.frozen? ⟨go3, (1 : Int).toNat * 16 + 14, none⟩ = false := hfr3 14; have hf3_15 : w22.frozen? ⟨go3, (1 : Int).toNat * 16 + 15, none⟩ = false := hfr3 15; clear hcl3 hcc3 hfr3 hM3; (try rw [show ((1 : Int)).toNat = 1 from rfl] at hx3_0); (try simp only [Nat.reduceMul, Nat.zero_mul, Nat.zero_add, Nat.reduceAdd] at hx3_0); (try rw [show ((1 : Int)).toNat = 1 from rfl] at hf3_0); (try simp only [Nat.reduceMul, Nat.zero_mul, Nat.zero_add, Nat.reduceAdd] at hf3_0); (try rw [show ((1 : Int)).toNat = 1 from rfl] at hx3_1); (try simp only [Nat.reduceMul, Nat.zero_mul, Nat.zero_add, Nat.reduceAdd] at hx3_1); (try rw [show ((1 : Int)).toNat = 1 from rfl] at hf3_1); (try simp only [Nat.reduceMul, Nat.zero_mul, Nat.zero_add, Nat.reduceAdd] at hf3_1); (try rw [show ((1 : Int)).toNat = 1 from rfl] at hx3_2); (try simp only [Nat.reduceMul, Nat.zero_mul, Nat.zero_add, Nat.reduceAdd] at hx3_2); (try rw [show ((1 : Int)).toNat = 1 from rfl] at hf3_2); (try simp only [Nat.reduceMul, Nat.zero_mul, Nat.zero_add, Nat.reduceAdd] at hf3_2); (try rw [show ((1 : Int)).toNat = 1 from rfl] at hx3_3); (try simp only [Nat.reduceMul, Nat.zero_mul, Nat.zero_add, Nat.reduceAdd] at hx3_3); (try rw [show ((1 : Int)).toNat = 1 from rfl] at hf3_3); (try simp only [Nat.reduceMul, Nat.zero_mul, Nat.zero_add, Nat.reduceAdd] at hf3_3); (try rw [show ((1 : Int)).toNat = 1 from rfl] at hx3_4); (try simp only [Nat.reduceMul, Nat.zero_mul, Nat.zero_add, Nat.reduceAdd] at hx3_4); (try rw [show ((1 : Int)).toNat = 1 from rfl] at hf3_4); (try simp only [Nat.reduceMul, Nat.zero_mul, Nat.zero_add, Nat.reduceAdd] at hf3_4); (try rw [show ((1 : Int)).toNat = 1 from rfl] at hx3_5); (try simp only [Nat.reduceMul, Nat.zero_mul, Nat.zero_add, Nat.reduceAdd] at hx3_5); (try rw [show ((1 : Int)).toNat = 1 from rfl] at hf3_5); (try simp only [Nat.reduceMul, Nat.zero_mul, Nat.zero_add, Nat.reduceAdd] at hf3_5); (try rw [show ((1 : Int)).toNat = 1 from rfl] at hx3_6); (try simp only [Nat.reduceMul, Nat.zero_mul, Nat.zero_add, Nat.reduceAdd] at hx3_6); (try rw [show ((1 : Int)).toNat = 1 from rfl] at hf3_6); (try simp only [Nat.reduceMul, Nat.zero_mul, Nat.zero_add, Nat.reduceAdd] at hf3_6); (try rw [show ((1 : Int)).toNat = 1 from rfl] at hx3_7); (try simp only [Nat.reduceMul, Nat.zero_mul, Nat.zero_add, Nat.reduceAdd] at hx3_7); (try rw [show ((1 : Int)).toNat = 1 from rfl] at hf3_7); (try simp only [Nat.reduceMul, Nat.zero_mul, Nat.zero_add, Nat.reduceAdd] at hf3_7); (try rw [show ((1 : Int)).toNat = 1 from rfl] at hx3_8); (try simp only [Nat.reduceMul, Nat.zero_mul, Nat.zero_add, Nat.reduceAdd] at hx3_8); (try rw [show ((1 : Int)).toNat = 1 from rfl] at hf3_8); (try simp only [Nat.reduceMul, Nat.zero_mul, Nat.zero_add, Nat.reduceAdd] at hf3_8); (try rw [show ((1 : Int)).toNat = 1 from rfl] at hx3_9); (try simp only [Nat.reduceMul, Nat.zero_mul, Nat.zero_add, Nat.reduceAdd] at hx3_9); (try rw [show ((1 : Int)).toNat = 1 from rfl] at hf3_9); (try simp only [Nat.reduceMul, Nat.zero_mul, Nat.zero_add, Nat.reduceAdd] at hf3_9); (try rw [show ((1 : Int)).toNat = 1 from rfl] at hx3_10); (try simp only [Nat.reduceMul, Nat.zero_mul, Nat.zero_add, Nat.reduceAdd] at hx3_10); (try rw [show ((1 : Int)).toNat = 1 from rfl] at hf3_10); (try simp only [Nat.reduceMul, Nat.zero_mul, Nat.zero_add, Nat.reduceAdd] at hf3_10); (try rw [show ((1 : Int)).toNat = 1 from rfl] at hx3_11); (try simp only [Nat.reduceMul, Nat.zero_mul, Nat.zero_add, Nat.reduceAdd] at hx3_11); (try rw [show ((1 : Int)).toNat = 1 from rfl] at hf3_11); (try simp only [Nat.reduceMul, Nat.zero_mul, Nat.zero_add, Nat.reduceAdd] at hf3_11); (try rw [show ((1 : Int)).toNat = 1 from rfl] at hx3_12); (try simp only [Nat.reduceMul, Nat.zero_mul, Nat.zero_add, Nat.reduceAdd] at hx3_12); (try rw [show ((1 : Int)).toNat = 1 from rfl] at hf3_12); (try simp only [Nat.reduceMul, Nat.zero_mul, Nat.zero_add, Nat.reduceAdd] at hf3_12); (try rw [show ((1 : Int)).toNat = 1 from rfl] at hx3_13); (try simp only [Nat.reduceMul, Nat.zero_mul, Nat.zero_add, Nat.reduceAdd] at hx3_13); (try rw [show ((1 : Int)).toNat = 1 from rfl] at hf3_13); (try simp only [Nat.reduceMul, Nat.zero_mul, Nat.zero_add, Nat.reduceAdd] at hf3_13); (try rw [show ((1 : Int)).toNat = 1 from rfl] at hx3_14); (try simp only [Nat.reduceMul, Nat.zero_mul, Nat.zero_add, Nat.reduceAdd] at hx3_14); (try rw [show ((1 : Int)).toNat = 1 from rfl] at hf3_14); (try simp only [Nat.reduceMul, Nat.zero_mul, Nat.zero_add, Nat.reduceAdd] at hf3_14); (try rw [show ((1 : Int)).toNat = 1 from rfl] at hx3_15); (try simp only [Nat.reduceMul, Nat.zero_mul, Nat.zero_add, Nat.reduceAdd] at hx3_15); (try rw [show ((1 : Int)).toNat = 1 from rfl] at hf3_15); (try simp only [Nat.reduceMul, Nat.zero_mul, Nat.zero_add, Nat.reduceAdd] at hf3_15); replace p3 := eq_true p3; replace q3 := eq_true q3; have n_ := Aside0.mk (Kd.N_mono (ok' := (fun k_ => some k_ ≠ (v202 : Value).ownBlock ∧ k_ ≠ gb193 ∧ k_ ≠ gb200)) HO199.out (fun k_ hk => ⟨hk.2, ⟨hk.1.1, hk.1.2⟩⟩)); clear HO199; have HO199 := n_; clear n_; have HX24 := Aside0.mk (show Kd.N k44 44 w22 w.heap.size (fun k_ => some k_ ≠ (v202 : Value).ownBlock ∧ k_ ≠ gb193 ∧ k_ ≠ gb200) (.slice (some ⟨go3, 0, none⟩) y197.length co17) y197 from (by (with_reducible repeat (first | apply Kd.N_alloc | apply Kd.N_drewN | apply Kd.N_drew)); exact HO199.out)); obtain ⟨ce24, hcl24, hM24, hcc24, hfr24⟩ := Kd.N_elem HX24.out z44 (1 : Int) (by omega) (by have h_ : (1 : Int) < ((y197.length : Int) : Int) := odA; first | exact h_ | (have e_ := (Kd.N_reads' HO199.out).1; omega) | simpa using h_); obtain ⟨ua24_1, uc24_1, ua24_4, uc24_4, ua24_8, uc24_8, ua24_9, uc24_9, ua24_13, uc24_13, ua24_14, uc24_14, ua24_15, uc24_15, rfl, ul24_1, ge24_1, ul24_4, ge24_4, ul24_8, ge24_8, ul24_9, ge24_9, ul24_13, ge24_13, ul24_14, ge24_14, ul24_15, ge24_15⟩ := k44_openF hM24; have HP24 := Kd.N_seg HX24.out (1 : Int) (by omega) (by have h_ : (1 : Int) < ((y197.length : Int) : Int) := odA; first | exact h_ | (have e_ := (Kd.N_reads' HO199.out).1; omega) | simpa using h_) (seg := [.int .i64 (-1)]) (j := 6) hcl24 hcc24 (show 7 ≤ 16 from by decide) (x' := (⟨(rd_T44 y197 1).f0, (rd_T44 y197 1).f1, (rd_T44 y197 1).f2, (rd_T44 y197 1).f3, (rd_T44 y197 1).f4, (rd_T44 y197 1).f5, (-1), (rd_T44 y197 1).f7, (rd_T44 y197 1).f8, (rd_T44 y197 1).f9, (rd_T44 y197 1).f10, (rd_T44 y197 1).f11, (rd_T44 y197 1).f12, (rd_T44 y197 1).f13, (rd_T44 y197 1).f14, (rd_T44 y197 1).f15⟩ : S44)) (k44_mkF _ _ (⟨(rd_T44 y197 1).f0, (rd_T44 y197 1).f1, (rd_T44 y197 1).f2, (rd_T44 y197 1).f3, (rd_T44 y197 1).f4, (rd_T44 y197 1).f5, (-1), (rd_T44 y197 1).f7, (rd_T44 y197 1).f8, (rd_T44 y197 1).f9, (rd_T44 y197 1).f10, (rd_T44 y197 1).f11, (rd_T44 y197 1).f12, (rd_T44 y197 1).f13, (rd_T44 y197 1).f14, (rd_T44 y197 1).f15⟩ : S44) ul24_1 ge24_1 ul24_4 ge24_4 ul24_8 ge24_8 ul24_9 ge24_9 ul24_13 ge24_13 ul24_14 ge24_14 ul24_15 ge24_15) (fun _ hk => hk); have hx24_6 := hcc24 6 _ rfl; (try simp only [show (k44).sz = 16 from rfl, Nat.mul_one, Nat.add_zero] at hx24_6); (try rw [show ((1 : Int)).toNat = 1 from rfl] at hx24_6); (try simp only [Nat.reduceMul, Nat.zero_mul, Nat.zero_add, Nat.reduceAdd] at hx24_6); have hf24_6 := hfr24 6; (try simp only [show (k44).sz = 16 from rfl, Nat.mul_one, Nat.add_zero] at hf24_6); (try rw [show ((1 : Int)).toNat = 1 from rfl] at hf24_6); (try simp only [Nat.reduceMul, Nat.zero_mul, Nat.zero_add, Nat.reduceAdd] at hf24_6); clear hcl24 hcc24 hfr24 hM24) | ((with_reducible refine gate_store (t := 3) (p := 25) rfl ?_); refine store_event (t := 3) (p := 25) (v := ?vo_w25) (w1 := (w22.setCell ⟨go3, 22, none⟩ (.int .i64 (-1)))) ?hg ?ho ?hn ?hr ?_; (case ho => rfl); (case hg => rfl); (case hn => rfl); (case hr => first | (go_simp; done) | (go_simp; rfl)); intro w25 hw; have hg : w22.grownBy w25 (some go3) := (by rw [hw]; exact HP24.2); have hp_ : Kd.N k44 44 w25 w.heap.size (fun k_ => some k_ ≠ (v202 : Value).ownBlock ∧ k_ ≠ gb193 ∧ k_ ≠ gb200) (.slice (some ⟨go3, 0, none⟩) y197.length co17) y206 := (by rw [hw, Ny206.out]; exact HP24.1); clear HP24; have n0_ := Aside0.mk (blk_grown (g := gb193) (o := .cells #[.int .i64 2, .int .i64 0, .int .i64 10, .int .i64 5, .int .i64 3, .int .i64 20] 27 (0, 0)) (blk_move BK193.out) hg (Kd.N_ne HO199.out BK193.out (by decide))); have n1_ := Aside0.mk (hp_); have n2_ := Aside0.mk (blk_grown (g := gb200) (o := .cells #[.slice none 0 0, .slice (some ⟨go3, 0, none⟩) y197.length co17] 25 (0, 0)) (blk_move BK200.out) hg (Kd.N_ne HO199.out BK200.out (by decide))); have n3_ := Aside0.mk (Kd.R_over' (v := (.slice (some ⟨go3, 0, none⟩) y197.length co17)) (by (with_reducible repeat (first | apply Kd.R_alloc | apply Kd.R_drewN | apply Kd.R_drew)); exact HO203.out) (Kd.N_typed HO199.out) (by decide) hg); have n4_ := Aside0.mk ((by rw [hw]; exact below_set (HB.out) GB3.out : Below w.heap.size w w25)); clear BK193; clear HO199; clear BK200; clear HO203; clear HB; have BK193 := n0_; have HO199 := n1_; have BK200 := n2_; have HO203 := n3_; have HB := n4_; clear n0_ n1_ n2_ n3_ n4_; clear hg hw hp_; have hz26 := blk2 BK200.out; have hz27 := blk6 BK193.out) | ((with_reducible refine gate_callee (f := 9) rfl ?_); refine goesL_ (some 29) rfl rfl Try.func9 (by kernel_rfl) rfl #[.agg #[.slice none 0 0, .slice (some ⟨go3, 0, none⟩) y206.length co17], .agg #[.int .i64 2, .int .i64 0, .int .i64 10, .int .i64 5, .int .i64 3, .int .i64 20]] rfl (by (try simp only [List.map_toArray, List.map_cons, List.map_nil]); first | done | (rw [show y206.length = y197.length from (Kd.N_reads' HO199.out).1.symm] <;> rfl) | rfl | (simp only [List.length_drop, List.length_take]; rfl)) ?_; (refine (bounds_Analyze.calls k _ _ ([] : List (S95)) _ _ y206 2 0 10 5 3 20 t207 t210 t211 _ ?side1 ?side2 ?side3 ?side4 A4.out).mono ?_); (case side1 => exact Kd.C_nil _ _); (case side2 => exact Nat.le_refl _); (case side3 => repeat (first | exact (Kd.N_reads' HO199.out).2.2 | (with_reducible refine Kd.C_alloc ?_ _) | (with_reducible refine Kd.C_drewN ?_ _) | (with_reducible refine Kd.C_drew ?_))); (case side4 => rw [show y206.length = y197.length from (Kd.N_reads' HO199.out).1.symm]; exact (Kd.N_reads' HO199.out).2.1); rintro e w28 ⟨v208, rfl, ho0, hb⟩; refine ⟨_, rfl, ?_⟩; have HO209 := Aside0.mk (Kd.R_lower (Kd.R_new' ho0 (Kd.R_lt (by (with_reducible repeat (first | apply Kd.R_alloc | apply Kd.R_drewN | apply Kd.R_drew)); exact HO203.out))) below_sizeA); replace HO199 := Aside0.mk (Kd.N_elder' (by (with_reducible repeat (first | apply Kd.N_alloc | apply Kd.N_drewN | apply Kd.N_drew)); exact HO199.out) (Kd.R_base ho0) hb); replace HO203 := Aside0.mk (Kd.R_elder' (by (with_reducible repeat (first | apply Kd.R_alloc | apply Kd.R_drewN | apply Kd.R_drew)); exact HO203.out) (Kd.R_base ho0) hb); replace BK193 := Aside0.mk (blk_keepA BK193.out hb); replace BK200 := Aside0.mk (blk_keepA BK200.out hb); replace HB := Aside0.mk (below_stepA hb); (try clear hb); (try clear ho0)) | ((with_reducible refine gate_dst (N := 43) rfl ?_); (try (refine gate_guard (by rfl) ?_; dsimp only)); refine Kd.R_lit k37 _ 37 ?hg (N := 43) ?hd (xs := ([(⟨0, 0, 6, 0⟩ : S37), (⟨59, 59, 360, 474⟩ : S37)] : List (S37))) (inner := [.int .i64 0, .int .i64 0, .int .i64 6, .int .i64 0, .int .i64 59, .int .i64 59, .int .i64 360, .int .i64 474]) (ok := fun _ => True) (okp := fun _ => True) ?hr ?hp (fun _ hk => hk) trivial (Below.refl _ _) (Nat.le_refl _) (by simp) ?_; (case hd => rfl); (case hg => rfl); (case hr => first | (go_simp; done) | (go_simp; rfl)); (case hp => exact (Reps.c4 (show Kd.M k37 _ _ _ (⟨0, 0, 6, 0⟩ : S37) [.int .i64 0, .int .i64 0, .int .i64 6, .int .i64 0] from (k37_mkM _ _ _ (⟨0, 0, 6, 0⟩ : S37) )) (Reps.c4 (show Kd.M k37 _ _ _ (⟨59, 59, 360, 474⟩ : S37) [.int .i64 59, .int .i64 59, .int .i64 360, .int .i64 474] from (k37_mkM _ _ _ (⟨59, 59, 360, 474⟩ : S37) )) (Reps.none _ _)))); intro v213 w29 ho30 hb hg_ hnew_; clear hg_ hnew_; (first | rw [← Ny212.out] at ho30 | (simp only [Int.reduceToNat] at ho30; rw [← Ny212.out] at ho30)); have HO214 := Aside0.mk (Kd.R_lower (Kd.R_new' (Kd.R_new' ho30 (Kd.R_lt (by (with_reducible repeat (first | apply Kd.R_alloc | apply Kd.R_drewN | apply Kd.R_drew)); exact HO203.out))) (Kd.R_lt (by (with_reducible repeat (first | apply Kd.R_alloc | apply Kd.R_drewN | apply Kd.R_drew)); exact HO209.out))) below_sizeA); replace HO199 := Aside0.mk (Kd.N_elder' (by (with_reducible repeat (first | apply Kd.N_alloc | apply Kd.N_drewN | apply Kd.N_drew)); exact HO199.out) (Kd.R_base ho30) hb); replace HO203 := Aside0.mk (Kd.R_elder' (by (with_reducible repeat (first | apply Kd.R_alloc | apply Kd.R_drewN | apply Kd.R_drew)); exact HO203.out) (Kd.R_base ho30) hb); replace HO209 := Aside0.mk (Kd.R_elder' (by (with_reducible repeat (first | apply Kd.R_alloc | apply Kd.R_drewN | apply Kd.R_drew)); exact HO209.out) (Kd.R_base ho30) hb); replace BK193 := Aside0.mk (blk_keepA BK193.out hb); replace BK200 := Aside0.mk (blk_keepA BK200.out hb); replace HB := Aside0.mk (below_stepA hb); clear hb ho30; obtain ⟨Ao31, co31, eo31⟩ := Kd.R_slice HO203.out; subst eo31; obtain ⟨Ao32, co32, eo32⟩ := Kd.R_slice HO214.out; subst eo32) | (go_at_call 11; (with_reducible refine (errataref20_Same.calls k _ _ t201 _ _ y212 true _ ?side1 ?side2 ?side3 ?side4 A7.out).mono ?_); (case side1 => repeat (first | exact (Kd.R_reads' HO203.out).2.2 | (with_reducible refine Kd.C_alloc ?_ _) | (with_reducible refine Kd.C_drewN ?_ _) | (with_reducible refine Kd.C_drew ?_))); (case side2 => exact (Kd.R_reads' HO203.out).2.1); (case side3 => repeat (first | exact (Kd.R_reads' HO214.out).2.2 | (with_reducible refine Kd.C_alloc ?_ _) | (with_reducible refine Kd.C_drewN ?_ _) | (with_reducible refine Kd.C_drew ?_))); (case side4 => exact (Kd.R_reads' HO214.out).2.1); rintro e w' ⟨rfl, ⟨nd, rfl⟩⟩))
     go_ret
     exact ⟨by first | rfl | (simp [errW_none, errW_some] <;> rfl) | (simp [*, errW_none, errW_some] <;> rfl), belowA⟩
    ·
     rw [if_neg c9] at H
     have c9b0 : (t211 == 14) = false := beq_eq_false_iff_ne.mpr c9
     have c9b1 : (t211 != 14) = true := bne_iff_ne.mpr c9
     obtain rfl := Option.some.inj H
     go_enter Try.func7, Try.ntmps7
     go_wp2_with (first | ((with_reducible refine gate_dst (N := 1) rfl ?_); (try (refine gate_guard (by rfl) ?_; dsimp only)); refine box_event ?hg (N := 1) ?hd (cs := #[.int .i64 0, .int .i64 0, .int .i64 0, .int .i64 0, .int .i64 0, .int .i64 0]) (t := 27) ?hr ?_; (case hd => rfl); (case hg => rfl); (case hr => first | (go_simp; done) | (go_simp; rfl)); intro gb193 hg w33 hbox hb; have BK193 := Aside0.mk (hbox); have GW193 := Aside0.mk ((by rw [hg]; exact below_sizeA : w.heap.size ≤ gb193)); have GE193 := GW193; replace HB := Aside0.mk (below_stepA hb); clear hb hbox hg; have hz34 := blk6 BK193.out) | ((with_reducible refine gate_dst (N := 11) rfl ?_); (try (refine gate_guard (by rfl) ?_; dsimp only)); refine Kd.R_lit (Kd.int .i64) _ 3 ?hg (N := 11) ?hd (xs := ([0] : List Int)) (inner := [.int .i64 0]) (ok := fun _ => True) (okp := fun _ => True) ?hr ?hp (fun _ hk => hk) trivial (Below.refl _ _) (Nat.le_refl _) (by simp) ?_; (case hd => rfl); (case hg => rfl); (case hr => first | (go_simp; done) | (go_simp; rfl)); (case hp => exact (Reps.one (show Kd.M (Kd.int .i64) _ _ _ 0 [.int .i64 0] from rfl) (Reps.none _ _))); intro v195 w35 ho36 hb hg_ hnew_; clear hg_ hnew_; (first | rw [← Ny194.out] at ho36 | (simp only [Int.reduceToNat] at ho36; rw [← Ny194.out] at ho36)); have HO196 := Aside0.mk (Kd.R_lower ho36 below_sizeA); replace BK193 := Aside0.mk (blk_below (g := gb193) (o := .cells #[.int .i64 2, .int .i64 0, .int .i64 10, .int .i64 5, .int .i64 3, .int .i64 20] 27 (0, 0)) (blk_move BK193.out) hb); replace HB := Aside0.mk (below_stepA hb); clear hb ho36; obtain ⟨Ao37, co37, eo37⟩ := Kd.R_slice HO196.out; subst eo37) | ((with_reducible refine gate_dst (N := 13) rfl ?_); (try (refine gate_guard (by rfl) ?_; dsimp only)); refine Kd.N_lit k44 _ 44 ?hg (N' := 13) ?hd (xs := ([(⟨0, ([] : List Int), (⟨#[]⟩ : ByteArray), 0, ([] : List (S93)), 0, 0, 0, ([] : List Int), ([] : List Int), 0, 0, 0, ([] : List (S97)), ([] : List (S99)), ([] : List (S50))⟩ : S44), (⟨4, y194, (⟨#[]⟩ : ByteArray), 0, ([] : List (S93)), 0, 60, 0, ([] : List Int), ([] : List Int), 0, 0, 0, ([] : List (S97)), ([] : List (S99)), ([] : List (S50))⟩ : S44)] : List (S44))) (inner := [.int .i64 0, .slice none 0 0, .string (⟨#[]⟩ : ByteArray), .int .i64 0, .slice none 0 0, .int .i64 0, .int .i64 0, .int .i64 0, .slice none 0 0, .slice none 0 0, .int .i64 0, .int .i64 0, .int .i64 0, .slice none 0 0, .slice none 0 0, .slice none 0 0, .int .i64 4, .slice Ao37 y194.length co37, .string (⟨#[]⟩ : ByteArray), .int .i64 0, .slice none 0 0, .int .i64 0, .int .i64 60, .int .i64 0, .slice none 0 0, .slice none 0 0, .int .i64 0, .int .i64 0, .int .i64 0, .slice none 0 0, .slice none 0 0, .slice none 0 0]) (ok := (fun k_ => k_ ≠ gb193)) (okp := (fun k_ => k_ ≠ gb193)) ?hr ?hp (fun _ hk => hk) ((show ∀ k_, w35.heap.size ≤ k_ → (fun k_ => k_ ≠ gb193) k_ from fun k_ hk => Kd.freshB (g := gb193) (o := .cells #[.int .i64 2, .int .i64 0, .int .i64 10, .int .i64 5, .int .i64 3, .int .i64 20] 27 (0, 0)) (blk_move BK193.out) k_ hk) _ (Nat.le_refl _)) (Below.refl _ _) (Nat.le_refl _) (by simp) ?_; (case hd => rfl); (case hg => rfl); (case hr => first | (go_simp; done) | (go_simp; rfl)); (case hp => exact (Reps.front (show Kd.FK k44 _ _ (⟨0, ([] : List Int), (⟨#[]⟩ : ByteArray), 0, ([] : List (S93)), 0, 0, 0, ([] : List Int), ([] : List Int), 0, 0, 0, ([] : List (S97)), ([] : List (S99)), ([] : List (S50))⟩ : S44) [.int .i64 0, .slice none 0 0, .string (⟨#[]⟩ : ByteArray), .int .i64 0, .slice none 0 0, .int .i64 0, .int .i64 0, .int .i64 0, .slice none 0 0, .slice none 0 0, .int .i64 0, .int .i64 0, .int .i64 0, .slice none 0 0, .slice none 0 0, .slice none 0 0] from (k44_mkF _ _ (⟨0, ([] : List Int), (⟨#[]⟩ : ByteArray), 0, ([] : List (S93)), 0, 0, 0, ([] : List Int), ([] : List Int), 0, 0, 0, ([] : List (S97)), ([] : List (S99)), ([] : List (S50))⟩ : S44) (Nat.le_refl _) (Kd.F_nil _ _ _) (Nat.le_refl _) (Kd.F_nil _ _ _) (Nat.le_refl _) (Kd.F_nil _ _ _) (Nat.le_refl _) (Kd.F_nil _ _ _) (Nat.le_refl _) (Kd.F_nil _ _ _) (Nat.le_refl _) (Kd.F_nil _ _ _) (Nat.le_refl _) (Kd.F_nil _ _ _))) rfl (Reps.front (show Kd.FK k44 _ _ (⟨4, y194, (⟨#[]⟩ : ByteArray), 0, ([] : List (S93)), 0, 60, 0, ([] : List Int), ([] : List Int), 0, 0, 0, ([] : List (S97)), ([] : List (S99)), ([] : List (S50))⟩ : S44) [.int .i64 4, .slice Ao37 y194.length co37, .string (⟨#[]⟩ : ByteArray), .int .i64 0, .slice none 0 0, .int .i64 0, .int .i64 60, .int .i64 0, .slice none 0 0, .slice none 0 0, .int .i64 0, .int .i64 0, .int .i64 0, .slice none 0 0, .slice none 0 0, .slice none 0 0] from (k44_mkF _ _ (⟨4, y194, (⟨#[]⟩ : ByteArray), 0, ([] : List (S93)), 0, 60, 0, ([] : List Int), ([] : List Int), 0, 0, 0, ([] : List (S97)), ([] : List (S99)), ([] : List (S50))⟩ : S44) (Kd.R_reads' (Kd.R_mono (ok' := (fun k_ => k_ ≠ gb193)) (Kd.R_types (HO196.out) BK193.out (by decide)) (fun k_ hk => hk.2))).2.1 (Kd.R_F (Kd.R_mono (ok' := (fun k_ => k_ ≠ gb193)) (Kd.R_types (HO196.out) BK193.out (by decide)) (fun k_ hk => hk.2))) (Nat.le_refl _) (Kd.F_nil _ _ _) (Nat.le_refl _) (Kd.F_nil _ _ _) (Nat.le_refl _) (Kd.F_nil _ _ _) (Nat.le_refl _) (Kd.F_nil _ _ _) (Nat.le_refl _) (Kd.F_nil _ _ _) (Nat.le_refl _) (Kd.F_nil _ _ _))) rfl (Reps.none _ _) rfl) rfl)); intro v198 w38 ho39 hb hg_ hnew_; clear hg_ hnew_; (first | rw [← Ny197.out] at ho39 | (simp only [Int.reduceToNat] at ho39; rw [← Ny197.out] at ho39)); have n0_ := Aside0.mk (Kd.N_lower ho39 below_sizeA); have n1_ := Aside0.mk (blk_keepA BK193.out hb); have n2_ := Aside0.mk (below_stepA hb); clear BK193; clear HB; clear HO196; have HO199 := n0_; have BK193 := n1_; have HB := n2_; clear n0_ n1_ n2_; clear hb ho39; obtain ⟨Ao40, co40, eo40⟩ := Kd.N_slice HO199.out; subst eo40) | ((with_reducible refine gate_dst (N := 2) rfl ?_); (try (refine gate_guard (by rfl) ?_; dsimp only)); refine box_event ?hg (N := 2) ?hd (cs := #[.slice none 0 0, .slice none 0 0]) (t := 25) ?hr ?_; (case hd => rfl); (case hg => rfl); (case hr => first | (go_simp; done) | (go_simp; rfl)); intro gb200 hg w41 hbox hb; have BK200 := Aside0.mk (hbox); have GW200 := Aside0.mk ((by rw [hg]; exact below_sizeA : w.heap.size ≤ gb200)); have GE200 := GW200; have NB193_200 := Aside0.mk ((by rw [hg]; exact Nat.ne_of_lt (blk_ltKA BK193.out) : gb193 ≠ gb200)); have NB200_193 := Aside0.mk NB193_200.out.symm; replace HO199 := Aside0.mk (Kd.N_below (Kd.N_elderB (by (with_reducible repeat (first | apply Kd.N_alloc | apply Kd.N_drewN | apply Kd.N_drew)); exact HO199.out) gb200 (Nat.le_of_eq hg.symm)) hb); replace BK193 := Aside0.mk (blk_keepA BK193.out hb); replace HB := Aside0.mk (below_stepA hb); clear hb hbox hg; have hnb42 := NB200_193.out; have hnc42 := NB193_200.out; have hz43 := blk2 BK200.out; have hz44 := blk6 BK193.out) | ((with_reducible refine gate_callee (f := 9) rfl ?_); refine goesL_ (some 18) rfl rfl Try.func9 (by kernel_rfl) rfl #[.agg #[.slice none 0 0, .slice Ao40 y197.length co40], .agg #[.int .i64 2, .int .i64 0, .int .i64 10, .int .i64 5, .int .i64 3, .int .i64 20]] rfl mapA ?_; (refine (bounds_Analyze.calls k _ _ ([] : List (S95)) _ _ y197 2 0 10 5 3 20 t201 t204 t205 _ ?side1 ?side2 ?side3 ?side4 A1.out).mono ?_); (case side1 => exact Kd.C_nil _ _); (case side2 => exact Nat.le_refl _); (case side3 => refine (Kd.N_reads' (e := 44) (base := w.heap.size) (ok := fun k_ => (k_ ≠ gb193 ∧ k_ ≠ gb200)) (n := y197.length) (c := co40) ?_).2.2; exact (by (with_reducible repeat (first | apply Kd.N_alloc | apply Kd.N_drewN | apply Kd.N_drew)); exact (Kd.N_mono (Kd.N_far (p := ⟨gb200, 1, none⟩) (Kd.N_far (p := ⟨gb200, 0, none⟩) (Kd.N_mono HO199.out (fun k_ hk => (⟨hk, hk.2⟩ : _ ∧ k_ ≠ gb200))) (fun _ hk => hk.2) (.slice none 0 0)) (fun _ hk => hk.2) (.slice Ao40 y197.length co40)) (fun _ h_ => h_.1)))); (case side4 => exact (Kd.N_reads' HO199.out).2.1); rintro e w45 ⟨v202, rfl, ho0, hb⟩; refine ⟨_, rfl, ?_⟩; have HO203 := Aside0.mk (Kd.R_lower ho0 below_sizeA); replace HO199 := Aside0.mk (Kd.N_elder' (by (with_reducible repeat (first | apply Kd.N_alloc | apply Kd.N_drewN | apply Kd.N_drew)); exact (Kd.N_mono (Kd.N_far (p := ⟨gb200, 1, none⟩) (Kd.N_far (p := ⟨gb200, 0, none⟩) (Kd.N_mono HO199.out (fun k_ hk => (⟨hk, hk.2⟩ : _ ∧ k_ ≠ gb200))) (fun _ hk => hk.2) (.slice none 0 0)) (fun _ hk => hk.2) (.slice Ao40 y197.length co40)) (fun _ h_ => h_.1))) (Kd.R_base ho0) hb); replace BK193 := Aside0.mk (blk_keepA BK193.out hb); replace BK200 := Aside0.mk (blk_below (g := gb200) (o := .cells #[.slice none 0 0, .slice Ao40 y197.length co40] 25 (0, 0)) (blk_move BK200.out) hb); replace HB := Aside0.mk (below_stepA hb); (try clear hb); (try clear ho0); have hz46 := blk2 BK200.out; have p3 : 0 ≤ (1 : Int) := (by omega); have q3 : (1 : Int) < ((y197.length : Int) : Int) := odA; have qi3 : (1 < y197.length) = True := eq_true (by omega); obtain ⟨go3, co3, eo3, gb3, gl3, cl3, HG3⟩ := Kd.N_form HO199.out (by omega); (first | cases eo3 | (injection eo3 with ea_ en_ ec_; (first | subst ea_ | (injection ea_ with ea_; subst ea_)); subst ec_; clear en_)); have GB3 := Aside0.mk gb3; have GG3 := Aside0.mk HG3; clear gb3 gl3 HG3; obtain ⟨ce3, hcl3, hM3, hcc3, hfr3⟩ := Kd.N_elem HO199.out z44 (1 : Int) p3 q3; obtain ⟨ua3_1, uc3_1, ua3_4, uc3_4, ua3_8, uc3_8, ua3_9, uc3_9, ua3_13, uc3_13, ua3_14, uc3_14, ua3_15, uc3_15, rfl, ul3_1, ge3_1, ul3_4, ge3_4, ul3_8, ge3_8, ul3_9, ge3_9, ul3_13, ge3_13, ul3_14, ge3_14, ul3_15, ge3_15⟩ := k44_openF hM3; have hx3_0 : w45.cell? ⟨go3, (1 : Int).toNat * 16, none⟩ = some (.int .i64 ((rd_T44 y197 1).f0)) := hcc3 0 _ rfl; have hx3_1 : w45.cell? ⟨go3, (1 : Int).toNat * 16 + 1, none⟩ = some (.slice ua3_1 ((rd_T44 y197 1).f1).length uc3_1) := hcc3 1 _ rfl; have hx3_2 : w45.cell? ⟨go3, (1 : Int).toNat * 16 + 2, none⟩ = some (.string ((rd_T44 y197 1).f2)) := hcc3 2 _ rfl; have hx3_3 : w45.cell? ⟨go3, (1 : Int).toNat * 16 + 3, none⟩ = some (.int .i64 ((rd_T44 y197 1).f3)) := hcc3 3 _ rfl; have hx3_4 : w45.cell? ⟨go3, (1 : Int).toNat * 16 + 4, none⟩ = some (.slice ua3_4 ((rd_T44 y197 1).f4).length uc3_4) := hcc3 4 _ rfl; have hx3_5 : w45.cell? ⟨go3, (1 : Int).toNat * 16 + 5, none⟩ = some (.int .i64 ((rd_T44 y197 1).f5)) := hcc3 5 _ rfl; have hx3_6 : w45.cell? ⟨go3, (1 : Int).toNat * 16 + 6, none⟩ = some (.int .i64 ((rd_T44 y197 1).f6)) := hcc3 6 _ rfl; have hx3_7 : w45.cell? ⟨go3, (1 : Int).toNat * 16 + 7, none⟩ = some (.int .i64 ((rd_T44 y197 1).f7)) := hcc3 7 _ rfl; have hx3_8 : w45.cell? ⟨go3, (1 : Int).toNat * 16 + 8, none⟩ = some (.slice ua3_8 ((rd_T44 y197 1).f8).length uc3_8) := hcc3 8 _ rfl; have hx3_9 : w45.cell? ⟨go3, (1 : Int).toNat * 16 + 9, none⟩ = some (.slice ua3_9 ((rd_T44 y197 1).f9).length uc3_9) := hcc3 9 _ rfl; have hx3_10 : w45.cell? ⟨go3, (1 : Int).toNat * 16 + 10, none⟩ = some (.int .i64 ((rd_T44 y197 1).f10)) := hcc3 10 _ rfl; have hx3_11 : w45.cell? ⟨go3, (1 : Int).toNat * 16 + 11, none⟩ = some (.int .i64 ((rd_T44 y197 1).f11)) := hcc3 11 _ rfl; have hx3_12 : w45.cell? ⟨go3, (1 : Int).toNat * 16 + 12, none⟩ = some (.int .i64 ((rd_T44 y197 1).f12)) := hcc3 12 _ rfl; have hx3_13 : w45.cell? ⟨go3, (1 : Int).toNat * 16 + 13, none⟩ = some (.slice ua3_13 ((rd_T44 y197 1).f13).length uc3_13) := hcc3 13 _ rfl; have hx3_14 : w45.cell? ⟨go3, (1 : Int).toNat * 16 + 14, none⟩ = some (.slice ua3_14 ((rd_T44 y197 1).f14).length uc3_14) := hcc3 14 _ rfl; have hx3_15 : w45.cell? ⟨go3, (1 : Int).toNat * 16 + 15, none⟩ = some (.slice ua3_15 ((rd_T44 y197 1).f15).length uc3_15) := hcc3 15 _ rfl; have hf3_0 : w45.frozen? ⟨go3, (1 : Int).toNat * 16, none⟩ = false := hfr3 0; have hf3_1 : w45.frozen? ⟨go3, (1 : Int).toNat * 16 + 1, none⟩ = false := hfr3 1; have hf3_2 : w45.frozen? ⟨go3, (1 : Int).toNat * 16 + 2, none⟩ = false := hfr3 2; have hf3_3 : w45.frozen? ⟨go3, (1 : Int).toNat * 16 + 3, none⟩ = false := hfr3 3; have hf3_4 : w45.frozen? ⟨go3, (1 : Int).toNat * 16 + 4, none⟩ = false := hfr3 4; have hf3_5 : w45.frozen? ⟨go3, (1 : Int).toNat * 16 + 5, none⟩ = false := hfr3 5; have hf3_6 : w45.frozen? ⟨go3, (1 : Int).toNat * 16 + 6, none⟩ = false := hfr3 6; have hf3_7 : w45.frozen? ⟨go3, (1 : Int).toNat * 16 + 7, none⟩ = false := hfr3 7; have hf3_8 : w45.frozen? ⟨go3, (1 : Int).toNat * 16 + 8, none⟩ = false := hfr3 8; have hf3_9 : w45.frozen? ⟨go3, (1 : Int).toNat * 16 + 9, none⟩ = false := hfr3 9; have hf3_10 : w45.frozen? ⟨go3, (1 : Int).toNat * 16 + 10, none⟩ = false := hfr3 10; have hf3_11 : w45.frozen? ⟨go3, (1 : Int).toNat * 16 + 11, none⟩ = false := hfr3 11; have hf3_12 : w45.frozen? ⟨go3, (1 : Int).toNat * 16 + 12, none⟩ = false := hfr3 12; have hf3_13 : w45.frozen? ⟨go3, (1 : Int).toNat * 16 + 13, none⟩ = false := hfr3 13; have hf3_14 : w45.frozen? ⟨go3, (1 : Int).toNat * 16 + 14, none⟩ = false := hfr3 14; have hf3_15 : w45.frozen? ⟨go3, (1 : Int).toNat * 16 + 15, none⟩ = false := hfr3 15; clear hcl3 hcc3 hfr3 hM3; (try rw [show ((1 : Int)).toNat = 1 from rfl] at hx3_0); (try simp only [Nat.reduceMul, Nat.zero_mul, Nat.zero_add, Nat.reduceAdd] at hx3_0); (try rw [show ((1 : Int)).toNat = 1 from rfl] at hf3_0); (try simp only [Nat.reduceMul, Nat.zero_mul, Nat.zero_add, Nat.reduceAdd] at hf3_0); (try rw [show ((1 : Int)).toNat = 1 from rfl] at hx3_1); (try simp only [Nat.reduceMul, Nat.zero_mul, Nat.zero_add, Nat.reduceAdd] at hx3_1); (try rw [show ((1 : Int)).toNat = 1 from rfl] at hf3_1); (try simp only [Nat.reduceMul, Nat.zero_mul, Nat.zero_add, Nat.reduceAdd] at hf3_1); (try rw [show ((1 : Int)).toNat = 1 from rfl] at hx3_2); (try simp only [Nat.reduceMul, Nat.zero_mul, Nat.zero_add, Nat.reduceAdd] at hx3_2); (try rw [show ((1 : Int)).toNat = 1 from rfl] at hf3_2); (try simp only [Nat.reduceMul, Nat.zero_mul, Nat.zero_add, Nat.reduceAdd] at hf3_2); (try rw [show ((1 : Int)).toNat = 1 from rfl] at hx3_3); (try simp only [Nat.reduceMul, Nat.zero_mul, Nat.zero_add, Nat.reduceAdd] at hx3_3); (try rw [show ((1 : Int)).toNat = 1 from rfl] at hf3_3); (try simp only [Nat.reduceMul, Nat.zero_mul, Nat.zero_add, Nat.reduceAdd] at hf3_3); (try rw [show ((1 : Int)).toNat = 1 from rfl] at hx3_4); (try simp only [Nat.reduceMul, Nat.zero_mul, Nat.zero_add, Nat.reduceAdd] at hx3_4); (try rw [show ((1 : Int)).toNat = 1 from rfl] at hf3_4); (try simp only [Nat.reduceMul, Nat.zero_mul, Nat.zero_add, Nat.reduceAdd] at hf3_4); (try rw [show ((1 : Int)).toNat = 1 from rfl] at hx3_5); (try simp only [Nat.reduceMul, Nat.zero_mul, Nat.zero_add, Nat.reduceAdd] at hx3_5); (try rw [show ((1 : Int)).toNat = 1 from rfl] at hf3_5); (try simp only [Nat.reduceMul, Nat.zero_mul, Nat.zero_add, Nat.reduceAdd] at hf3_5); (try rw [show ((1 : Int)).toNat = 1 from rfl] at hx3_6); (try simp only [Nat.reduceMul, Nat.zero_mul, Nat.zero_add, Nat.reduceAdd] at hx3_6); (try rw [show ((1 : Int)).toNat = 1 from rfl] at hf3_6); (try simp only [Nat.reduceMul, Nat.zero_mul, Nat.zero_add, Nat.reduceAdd] at hf3_6); (try rw [show ((1 : Int)).toNat = 1 from rfl] at hx3_7); (try simp only [Nat.reduceMul, Nat.zero_mul, Nat.zero_add, Nat.reduceAdd] at hx3_7); (try rw [show ((1 : Int)).toNat = 1 from rfl] at hf3_7); (try simp only [Nat.reduceMul, Nat.zero_mul, Nat.zero_add, Nat.reduceAdd] at hf3_7); (try rw [show ((1 : Int)).toNat = 1 from rfl] at hx3_8); (try simp only [Nat.reduceMul, Nat.zero_mul, Nat.zero_add, Nat.reduceAdd] at hx3_8); (try rw [show ((1 : Int)).toNat = 1 from rfl] at hf3_8); (try simp only [Nat.reduceMul, Nat.zero_mul, Nat.zero_add, Nat.reduceAdd] at hf3_8); (try rw [show ((1 : Int)).toNat = 1 from rfl] at hx3_9); (try simp only [Nat.reduceMul, Nat.zero_mul, Nat.zero_add, Nat.reduceAdd] at hx3_9); (try rw [show ((1 : Int)).toNat = 1 from rfl] at hf3_9); (try simp only [Nat.reduceMul, Nat.zero_mul, Nat.zero_add, Nat.reduceAdd] at hf3_9); (try rw [show ((1 : Int)).toNat = 1 from rfl] at hx3_10); (try simp only [Nat.reduceMul, Nat.zero_mul, Nat.zero_add, Nat.reduceAdd] at hx3_10); (try rw [show ((1 : Int)).toNat = 1 from rfl] at hf3_10); (try simp only [Nat.reduceMul, Nat.zero_mul, Nat.zero_add, Nat.reduceAdd] at hf3_10); (try rw [show ((1 : Int)).toNat = 1 from rfl] at hx3_11); (try simp only [Nat.reduceMul, Nat.zero_mul, Nat.zero_add, Nat.reduceAdd] at hx3_11); (try rw [show ((1 : Int)).toNat = 1 from rfl] at hf3_11); (try simp only [Nat.reduceMul, Nat.zero_mul, Nat.zero_add, Nat.reduceAdd] at hf3_11); (try rw [show ((1 : Int)).toNat = 1 from rfl] at hx3_12); (try simp only [Nat.reduceMul, Nat.zero_mul, Nat.zero_add, Nat.reduceAdd] at hx3_12); (try rw [show ((1 : Int)).toNat = 1 from rfl] at hf3_12); (try simp only [Nat.reduceMul, Nat.zero_mul, Nat.zero_add, Nat.reduceAdd] at hf3_12); (try rw [show ((1 : Int)).toNat = 1 from rfl] at hx3_13); (try simp only [Nat.reduceMul, Nat.zero_mul, Nat.zero_add, Nat.reduceAdd] at hx3_13); (try rw [show ((1 : Int)).toNat = 1 from rfl] at hf3_13); (try simp only [Nat.reduceMul, Nat.zero_mul, Nat.zero_add, Nat.reduceAdd] at hf3_13); (try rw [show ((1 : Int)).toNat = 1 from rfl] at hx3_14); (try simp only [Nat.reduceMul, Nat.zero_mul, Nat.zero_add, Nat.reduceAdd] at hx3_14); (try rw [show ((1 : Int)).toNat = 1 from rfl] at hf3_14); (try simp only [Nat.reduceMul, Nat.zero_mul, Nat.zero_add, Nat.reduceAdd] at hf3_14); (try rw [show ((1 : Int)).toNat = 1 from rfl] at hx3_15); (try simp only [Nat.reduceMul, Nat.zero_mul, Nat.zero_add, Nat.reduceAdd] at hx3_15); (try rw [show ((1 : Int)).toNat = 1 from rfl] at hf3_15); (try simp only [Nat.reduceMul, Nat.zero_mul, Nat.zero_add, Nat.reduceAdd] at hf3_15); replace p3 := eq_true p3; replace q3 := eq_true q3; have n_ := Aside0.mk (Kd.N_mono (ok' := (fun k_ => some k_ ≠ (v202 : Value).ownBlock ∧ k_ ≠ gb193 ∧ k_ ≠ gb200)) HO199.out (fun k_ hk => ⟨hk.2, ⟨hk.1.1, hk.1.2⟩⟩)); clear HO199; have HO199 := n_; clear n_; have HX47 := Aside0.mk (show Kd.N k44 44 w45 w.heap.size (fun k_ => some k_ ≠ (v202 : Value).ownBlock ∧ k_ ≠ gb193 ∧ k_ ≠ gb200) (.slice (some ⟨go3, 0, none⟩) y197.length co40) y197 from (by (with_reducible repeat (first | apply Kd.N_alloc | apply Kd.N_drewN | apply Kd.N_drew)); exact HO199.out)); obtain ⟨ce47, hcl47, hM47, hcc47, hfr47⟩ := Kd.N_elem HX47.out z44 (1 : Int) (by omega) (by have h_ : (1 : Int) < ((y197.length : Int) : Int) := odA; first | exact h_ | (have e_ := (Kd.N_reads' HO199.out).1; omega) | simpa using h_); obtain ⟨ua47_1, uc47_1, ua47_4, uc47_4, ua47_8, uc47_8, ua47_9, uc47_9, ua47_13, uc47_13, ua47_14, uc47_14, ua47_15, uc47_15, rfl, ul47_1, ge47_1, ul47_4, ge47_4, ul47_8, ge47_8, ul47_9, ge47_9, ul47_13, ge47_13, ul47_14, ge47_14, ul47_15, ge47_15⟩ := k44_openF hM47; have HP47 := Kd.N_seg HX47.out (1 : Int) (by omega) (by have h_ : (1 : Int) < ((y197.length : Int) : Int) := odA; first | exact h_ | (have e_ := (Kd.N_reads' HO199.out).1; omega) | simpa using h_) (seg := [.int .i64 (-1)]) (j := 6) hcl47 hcc47 (show 7 ≤ 16 from by decide) (x' := (⟨(rd_T44 y197 1).f0, (rd_T44 y197 1).f1, (rd_T44 y197 1).f2, (rd_T44 y197 1).f3, (rd_T44 y197 1).f4, (rd_T44 y197 1).f5, (-1), (rd_T44 y197 1).f7, (rd_T44 y197 1).f8, (rd_T44 y197 1).f9, (rd_T44 y197 1).f10, (rd_T44 y197 1).f11, (rd_T44 y197 1).f12, (rd_T44 y197 1).f13, (rd_T44 y197 1).f14, (rd_T44 y197 1).f15⟩ : S44)) (k44_mkF _ _ (⟨(rd_T44 y197 1).f0, (rd_T44 y197 1).f1, (rd_T44 y197 1).f2, (rd_T44 y197 1).f3, (rd_T44 y197 1).f4, (rd_T44 y197 1).f5, (-1), (rd_T44 y197 1).f7, (rd_T44 y197 1).f8, (rd_T44 y197 1).f9, (rd_T44 y197 1).f10, (rd_T44 y197 1).f11, (rd_T44 y197 1).f12, (rd_T44 y197 1).f13, (rd_T44 y197 1).f14, (rd_T44 y197 1).f15⟩ : S44) ul47_1 ge47_1 ul47_4 ge47_4 ul47_8 ge47_8 ul47_9 ge47_9 ul47_13 ge47_13 ul47_14 ge47_14 ul47_15 ge47_15) (fun _ hk => hk); have hx47_6 := hcc47 6 _ rfl; (try simp only [show (k44).sz = 16 from rfl, Nat.mul_one, Nat.add_zero] at hx47_6); (try rw [show ((1 : Int)).toNat = 1 from rfl] at hx47_6); (try simp only [Nat.reduceMul, Nat.zero_mul, Nat.zero_add, Nat.reduceAdd] at hx47_6); have hf47_6 := hfr47 6; (try simp only [show (k44).sz = 16 from rfl, Nat.mul_one, Nat.add_zero] at hf47_6); (try rw [show ((1 : Int)).toNat = 1 from rfl] at hf47_6); (try simp only [Nat.reduceMul, Nat.zero_mul, Nat.zero_add, Nat.reduceAdd] at hf47_6); clear hcl47 hcc47 hfr47 hM47) | ((with_reducible refine gate_store (t := 3) (p := 25) rfl ?_); refine store_event (t := 3) (p := 25) (v := ?vo_w48) (w1 := (w45.setCell ⟨go3, 22, none⟩ (.int .i64 (-1)))) ?hg ?ho ?hn ?hr ?_; (case ho => rfl); (case hg => rfl); (case hn => rfl); (case hr => first | (go_simp; done) | (go_simp; rfl)); intro w48 hw; have hg : w45.grownBy w48 (some go3) := (by rw [hw]; exact HP47.2); have hp_ : Kd.N k44 44 w48 w.heap.size (fun k_ => some k_ ≠ (v202 : Value).ownBlock ∧ k_ ≠ gb193 ∧ k_ ≠ gb200) (.slice (some ⟨go3, 0, none⟩) y197.length co40) y206 := (by rw [hw, Ny206.out]; exact HP47.1); clear HP47; have n0_ := Aside0.mk (blk_grown (g := gb193) (o := .cells #[.int .i64 2, .int .i64 0, .int .i64 10, .int .i64 5, .int .i64 3, .int .i64 20] 27 (0, 0)) (blk_move BK193.out) hg (Kd.N_ne HO199.out BK193.out (by decide))); have n1_ := Aside0.mk (hp_); have n2_ := Aside0.mk (blk_grown (g := gb200) (o := .cells #[.slice none 0 0, .slice (some ⟨go3, 0, none⟩) y197.length co40] 25 (0, 0)) (blk_move BK200.out) hg (Kd.N_ne HO199.out BK200.out (by decide))); have n3_ := Aside0.mk (Kd.R_over' (v := (.slice (some ⟨go3, 0, none⟩) y197.length co40)) (by (with_reducible repeat (first | apply Kd.R_alloc | apply Kd.R_drewN | apply Kd.R_drew)); exact HO203.out) (Kd.N_typed HO199.out) (by decide) hg); have n4_ := Aside0.mk ((by rw [hw]; exact below_set (HB.out) GB3.out : Below w.heap.size w w48)); clear BK193; clear HO199; clear BK200; clear HO203; clear HB; have BK193 := n0_; have HO199 := n1_; have BK200 := n2_; have HO203 := n3_; have HB := n4_; clear n0_ n1_ n2_ n3_ n4_; clear hg hw hp_; have hz49 := blk2 BK200.out; have hz50 := blk6 BK193.out) | ((with_reducible refine gate_callee (f := 9) rfl ?_); refine goesL_ (some 29) rfl rfl Try.func9 (by kernel_rfl) rfl #[.agg #[.slice none 0 0, .slice (some ⟨go3, 0, none⟩) y206.length co40], .agg #[.int .i64 2, .int .i64 0, .int .i64 10, .int .i64 5, .int .i64 3, .int .i64 20]] rfl (by (try simp only [List.map_toArray, List.map_cons, List.map_nil]); first | done | (rw [show y206.length = y197.length from (Kd.N_reads' HO199.out).1.symm] <;> rfl) | rfl | (simp only [List.length_drop, List.length_take]; rfl)) ?_; (refine (bounds_Analyze.calls k _ _ ([] : List (S95)) _ _ y206 2 0 10 5 3 20 t207 t210 t211 _ ?side1 ?side2 ?side3 ?side4 A4.out).mono ?_); (case side1 => exact Kd.C_nil _ _); (case side2 => exact Nat.le_refl _); (case side3 => repeat (first | exact (Kd.N_reads' HO199.out).2.2 | (with_reducible refine Kd.C_alloc ?_ _) | (with_reducible refine Kd.C_drewN ?_ _) | (with_reducible refine Kd.C_drew ?_))); (case side4 => rw [show y206.length = y197.length from (Kd.N_reads' HO199.out).1.symm]; exact (Kd.N_reads' HO199.out).2.1); rintro e w51 ⟨v208, rfl, ho0, hb⟩; refine ⟨_, rfl, ?_⟩; have HO209 := Aside0.mk (Kd.R_lower (Kd.R_new' ho0 (Kd.R_lt (by (with_reducible repeat (first | apply Kd.R_alloc | apply Kd.R_drewN | apply Kd.R_drew)); exact HO203.out))) below_sizeA); replace HO199 := Aside0.mk (Kd.N_elder' (by (with_reducible repeat (first | apply Kd.N_alloc | apply Kd.N_drewN | apply Kd.N_drew)); exact HO199.out) (Kd.R_base ho0) hb); replace HO203 := Aside0.mk (Kd.R_elder' (by (with_reducible repeat (first | apply Kd.R_alloc | apply Kd.R_drewN | apply Kd.R_drew)); exact HO203.out) (Kd.R_base ho0) hb); replace BK193 := Aside0.mk (blk_keepA BK193.out hb); replace BK200 := Aside0.mk (blk_keepA BK200.out hb); replace HB := Aside0.mk (below_stepA hb); (try clear hb); (try clear ho0)) | ((with_reducible refine gate_dst (N := 43) rfl ?_); (try (refine gate_guard (by rfl) ?_; dsimp only)); refine Kd.R_lit k37 _ 37 ?hg (N := 43) ?hd (xs := ([(⟨0, 0, 6, 0⟩ : S37), (⟨59, 59, 360, 474⟩ : S37)] : List (S37))) (inner := [.int .i64 0, .int .i64 0, .int .i64 6, .int .i64 0, .int .i64 59, .int .i64 59, .int .i64 360, .int .i64 474]) (ok := fun _ => True) (okp := fun _ => True) ?hr ?hp (fun _ hk => hk) trivial (Below.refl _ _) (Nat.le_refl _) (by simp) ?_; (case hd => rfl); (case hg => rfl); (case hr => first | (go_simp; done) | (go_simp; rfl)); (case hp => exact (Reps.c4 (show Kd.M k37 _ _ _ (⟨0, 0, 6, 0⟩ : S37) [.int .i64 0, .int .i64 0, .int .i64 6, .int .i64 0] from (k37_mkM _ _ _ (⟨0, 0, 6, 0⟩ : S37) )) (Reps.c4 (show Kd.M k37 _ _ _ (⟨59, 59, 360, 474⟩ : S37) [.int .i64 59, .int .i64 59, .int .i64 360, .int .i64 474] from (k37_mkM _ _ _ (⟨59, 59, 360, 474⟩ : S37) )) (Reps.none _ _)))); intro v213 w52 ho53 hb hg_ hnew_; clear hg_ hnew_; (first | rw [← Ny212.out] at ho53 | (simp only [Int.reduceToNat] at ho53; rw [← Ny212.out] at ho53)); have HO214 := Aside0.mk (Kd.R_lower (Kd.R_new' (Kd.R_new' ho53 (Kd.R_lt (by (with_reducible repeat (first | apply Kd.R_alloc | apply Kd.R_drewN | apply Kd.R_drew)); exact HO203.out))) (Kd.R_lt (by (with_reducible repeat (first | apply Kd.R_alloc | apply Kd.R_drewN | apply Kd.R_drew)); exact HO209.out))) below_sizeA); replace HO199 := Aside0.mk (Kd.N_elder' (by (with_reducible repeat (first | apply Kd.N_alloc | apply Kd.N_drewN | apply Kd.N_drew)); exact HO199.out) (Kd.R_base ho53) hb); replace HO203 := Aside0.mk (Kd.R_elder' (by (with_reducible repeat (first | apply Kd.R_alloc | apply Kd.R_drewN | apply Kd.R_drew)); exact HO203.out) (Kd.R_base ho53) hb); replace HO209 := Aside0.mk (Kd.R_elder' (by (with_reducible repeat (first | apply Kd.R_alloc | apply Kd.R_drewN | apply Kd.R_drew)); exact HO209.out) (Kd.R_base ho53) hb); replace BK193 := Aside0.mk (blk_keepA BK193.out hb); replace BK200 := Aside0.mk (blk_keepA BK200.out hb); replace HB := Aside0.mk (below_stepA hb); clear hb ho53; obtain ⟨Ao54, co54, eo54⟩ := Kd.R_slice HO203.out; subst eo54; obtain ⟨Ao55, co55, eo55⟩ := Kd.R_slice HO214.out; subst eo55) | (go_at_call 11; (with_reducible refine (errataref20_Same.calls k _ _ t201 _ _ y212 true _ ?side1 ?side2 ?side3 ?side4 A7.out).mono ?_); (case side1 => repeat (first | exact (Kd.R_reads' HO203.out).2.2 | (with_reducible refine Kd.C_alloc ?_ _) | (with_reducible refine Kd.C_drewN ?_ _) | (with_reducible refine Kd.C_drew ?_))); (case side2 => exact (Kd.R_reads' HO203.out).2.1); (case side3 => repeat (first | exact (Kd.R_reads' HO214.out).2.2 | (with_reducible refine Kd.C_alloc ?_ _) | (with_reducible refine Kd.C_drewN ?_ _) | (with_reducible refine Kd.C_drew ?_))); (case side4 => exact (Kd.R_reads' HO214.out).2.1); rintro e w' ⟨rfl, ⟨nd, rfl⟩⟩))
     go_ret
     exact ⟨by first | rfl | (simp [errW_none, errW_some] <;> rfl) | (simp [*, errW_none, errW_some] <;> rfl), belowA⟩
   ·
    replace c8 := Bool.eq_false_iff.mpr c8
    subst c8
    rw [if_neg (show ¬ (false = true) by decide)] at H
    obtain rfl := Option.some.inj H
    go_enter Try.func7, Try.ntmps7
    go_wp2_with (first | ((with_reducible refine gate_dst (N := 1) rfl ?_); (try (refine gate_guard (by rfl) ?_; dsimp only)); refine box_event ?hg (N := 1) ?hd (cs := #[.int .i64 0, .int .i64 0, .int .i64 0, .int .i64 0, .int .i64 0, .int .i64 0]) (t := 27) ?hr ?_; (case hd => rfl); (case hg => rfl); (case hr => first | (go_simp; done) | (go_simp; rfl)); intro gb193 hg w56 hbox hb; have BK193 := Aside0.mk (hbox); have GW193 := Aside0.mk ((by rw [hg]; exact below_sizeA : w.heap.size ≤ gb193)); have GE193 := GW193; replace HB := Aside0.mk (below_stepA hb); clear hb hbox hg; have hz57 := blk6 BK193.out) | ((with_reducible refine gate_dst (N := 11) rfl ?_); (try (refine gate_guard (by rfl) ?_; dsimp only)); refine Kd.R_lit (Kd.int .i64) _ 3 ?hg (N := 11) ?hd (xs := ([0] : List Int)) (inner := [.int .i64 0]) (ok := fun _ => True) (okp := fun _ => True) ?hr ?hp (fun _ hk => hk) trivial (Below.refl _ _) (Nat.le_refl _) (by simp) ?_; (case hd => rfl); (case hg => rfl); (case hr => first | (go_simp; done) | (go_simp; rfl)); (case hp => exact (Reps.one (show Kd.M (Kd.int .i64) _ _ _ 0 [.int .i64 0] from rfl) (Reps.none _ _))); intro v195 w58 ho59 hb hg_ hnew_; clear hg_ hnew_; (first | rw [← Ny194.out] at ho59 | (simp only [Int.reduceToNat] at ho59; rw [← Ny194.out] at ho59)); have HO196 := Aside0.mk (Kd.R_lower ho59 below_sizeA); replace BK193 := Aside0.mk (blk_below (g := gb193) (o := .cells #[.int .i64 2, .int .i64 0, .int .i64 10, .int .i64 5, .int .i64 3, .int .i64 20] 27 (0, 0)) (blk_move BK193.out) hb); replace HB := Aside0.mk (below_stepA hb); clear hb ho59; obtain ⟨Ao60, co60, eo60⟩ := Kd.R_slice HO196.out; subst eo60) | ((with_reducible refine gate_dst (N := 13) rfl ?_); (try (refine gate_guard (by rfl) ?_; dsimp only)); refine Kd.N_lit k44 _ 44 ?hg (N' := 13) ?hd (xs := ([(⟨0, ([] : List Int), (⟨#[]⟩ : ByteArray), 0, ([] : List (S93)), 0, 0, 0, ([] : List Int), ([] : List Int), 0, 0, 0, ([] : List (S97)), ([] : List (S99)), ([] : List (S50))⟩ : S44), (⟨4, y194, (⟨#[]⟩ : ByteArray), 0, ([] : List (S93)), 0, 60, 0, ([] : List Int), ([] : List Int), 0, 0, 0, ([] : List (S97)), ([] : List (S99)), ([] : List (S50))⟩ : S44)] : List (S44))) (inner := [.int .i64 0, .slice none 0 0, .string (⟨#[]⟩ : ByteArray), .int .i64 0, .slice none 0 0, .int .i64 0, .int .i64 0, .int .i64 0, .slice none 0 0, .slice none 0 0, .int .i64 0, .int .i64 0, .int .i64 0, .slice none 0 0, .slice none 0 0, .slice none 0 0, .int .i64 4, .slice Ao60 y194.length co60, .string (⟨#[]⟩ : ByteArray), .int .i64 0, .slice none 0 0, .int .i64 0, .int .i64 60, .int .i64 0, .slice none 0 0, .slice none 0 0, .int .i64 0, .int .i64 0, .int .i64 0, .slice none 0 0, .slice none 0 0, .slice none 0 0]) (ok := (fun k_ => k_ ≠ gb193)) (okp := (fun k_ => k_ ≠ gb193)) ?hr ?hp (fun _ hk => hk) ((show ∀ k_, w58.heap.size ≤ k_ → (fun k_ => k_ ≠ gb193) k_ from fun k_ hk => Kd.freshB (g := gb193) (o := .cells #[.int .i64 2, .int .i64 0, .int .i64 10, .int .i64 5, .int .i64 3, .int .i64 20] 27 (0, 0)) (blk_move BK193.out) k_ hk) _ (Nat.le_refl _)) (Below.refl _ _) (Nat.le_refl _) (by simp) ?_; (case hd => rfl); (case hg => rfl); (case hr => first | (go_simp; done) | (go_simp; rfl)); (case hp => exact (Reps.front (show Kd.FK k44 _ _ (⟨0, ([] : List Int), (⟨#[]⟩ : ByteArray), 0, ([] : List (S93)), 0, 0, 0, ([] : List Int), ([] : List Int), 0, 0, 0, ([] : List (S97)), ([] : List (S99)), ([] : List (S50))⟩ : S44) [.int .i64 0, .slice none 0 0, .string (⟨#[]⟩ : ByteArray), .int .i64 0, .slice none 0 0, .int .i64 0, .int .i64 0, .int .i64 0, .slice none 0 0, .slice none 0 0, .int .i64 0, .int .i64 0, .int .i64 0, .slice none 0 0, .slice none 0 0, .slice none 0 0] from (k44_mkF _ _ (⟨0, ([] : List Int), (⟨#[]⟩ : ByteArray), 0, ([] : List (S93)), 0, 0, 0, ([] : List Int), ([] : List Int), 0, 0, 0, ([] : List (S97)), ([] : List (S99)), ([] : List (S50))⟩ : S44) (Nat.le_refl _) (Kd.F_nil _ _ _) (Nat.le_refl _) (Kd.F_nil _ _ _) (Nat.le_refl _) (Kd.F_nil _ _ _) (Nat.le_refl _) (Kd.F_nil _ _ _) (Nat.le_refl _) (Kd.F_nil _ _ _) (Nat.le_refl _) (Kd.F_nil _ _ _) (Nat.le_refl _) (Kd.F_nil _ _ _))) rfl (Reps.front (show Kd.FK k44 _ _ (⟨4, y194, (⟨#[]⟩ : ByteArray), 0, ([] : List (S93)), 0, 60, 0, ([] : List Int), ([] : List Int), 0, 0, 0, ([] : List (S97)), ([] : List (S99)), ([] : List (S50))⟩ : S44) [.int .i64 4, .slice Ao60 y194.length co60, .string (⟨#[]⟩ : ByteArray), .int .i64 0, .slice none 0 0, .int .i64 0, .int .i64 60, .int .i64 0, .slice none 0 0, .slice none 0 0, .int .i64 0, .int .i64 0, .int .i64 0, .slice none 0 0, .slice none 0 0, .slice none 0 0] from (k44_mkF _ _ (⟨4, y194, (⟨#[]⟩ : ByteArray), 0, ([] : List (S93)), 0, 60, 0, ([] : List Int), ([] : List Int), 0, 0, 0, ([] : List (S97)), ([] : List (S99)), ([] : List (S50))⟩ : S44) (Kd.R_reads' (Kd.R_mono (ok' := (fun k_ => k_ ≠ gb193)) (Kd.R_types (HO196.out) BK193.out (by decide)) (fun k_ hk => hk.2))).2.1 (Kd.R_F (Kd.R_mono (ok' := (fun k_ => k_ ≠ gb193)) (Kd.R_types (HO196.out) BK193.out (by decide)) (fun k_ hk => hk.2))) (Nat.le_refl _) (Kd.F_nil _ _ _) (Nat.le_refl _) (Kd.F_nil _ _ _) (Nat.le_refl _) (Kd.F_nil _ _ _) (Nat.le_refl _) (Kd.F_nil _ _ _) (Nat.le_refl _) (Kd.F_nil _ _ _) (Nat.le_refl _) (Kd.F_nil _ _ _))) rfl (Reps.none _ _) rfl) rfl)); intro v198 w61 ho62 hb hg_ hnew_; clear hg_ hnew_; (first | rw [← Ny197.out] at ho62 | (simp only [Int.reduceToNat] at ho62; rw [← Ny197.out] at ho62)); have n0_ := Aside0.mk (Kd.N_lower ho62 below_sizeA); have n1_ := Aside0.mk (blk_keepA BK193.out hb); have n2_ := Aside0.mk (below_stepA hb); clear BK193; clear HB; clear HO196; have HO199 := n0_; have BK193 := n1_; have HB := n2_; clear n0_ n1_ n2_; clear hb ho62; obtain ⟨Ao63, co63, eo63⟩ := Kd.N_slice HO199.out; subst eo63) | ((with_reducible refine gate_dst (N := 2) rfl ?_); (try (refine gate_guard (by rfl) ?_; dsimp only)); refine box_event ?hg (N := 2) ?hd (cs := #[.slice none 0 0, .slice none 0 0]) (t := 25) ?hr ?_; (case hd => rfl); (case hg => rfl); (case hr => first | (go_simp; done) | (go_simp; rfl)); intro gb200 hg w64 hbox hb; have BK200 := Aside0.mk (hbox); have GW200 := Aside0.mk ((by rw [hg]; exact below_sizeA : w.heap.size ≤ gb200)); have GE200 := GW200; have NB193_200 := Aside0.mk ((by rw [hg]; exact Nat.ne_of_lt (blk_ltKA BK193.out) : gb193 ≠ gb200)); have NB200_193 := Aside0.mk NB193_200.out.symm; replace HO199 := Aside0.mk (Kd.N_below (Kd.N_elderB (by (with_reducible repeat (first | apply Kd.N_alloc | apply Kd.N_drewN | apply Kd.N_drew)); exact HO199.out) gb200 (Nat.le_of_eq hg.symm)) hb); replace BK193 := Aside0.mk (blk_keepA BK193.out hb); replace HB := Aside0.mk (below_stepA hb); clear hb hbox hg; have hnb65 := NB200_193.out; have hnc65 := NB193_200.out; have hz66 := blk2 BK200.out; have hz67 := blk6 BK193.out) | ((with_reducible refine gate_callee (f := 9) rfl ?_); refine goesL_ (some 18) rfl rfl Try.func9 (by kernel_rfl) rfl #[.agg #[.slice none 0 0, .slice Ao63 y197.length co63], .agg #[.int .i64 2, .int .i64 0, .int .i64 10, .int .i64 5, .int .i64 3, .int .i64 20]] rfl mapA ?_; (refine (bounds_Analyze.calls k _ _ ([] : List (S95)) _ _ y197 2 0 10 5 3 20 t201 t204 t205 _ ?side1 ?side2 ?side3 ?side4 A1.out).mono ?_); (case side1 => exact Kd.C_nil _ _); (case side2 => exact Nat.le_refl _); (case side3 => refine (Kd.N_reads' (e := 44) (base := w.heap.size) (ok := fun k_ => (k_ ≠ gb193 ∧ k_ ≠ gb200)) (n := y197.length) (c := co63) ?_).2.2; exact (by (with_reducible repeat (first | apply Kd.N_alloc | apply Kd.N_drewN | apply Kd.N_drew)); exact (Kd.N_mono (Kd.N_far (p := ⟨gb200, 1, none⟩) (Kd.N_far (p := ⟨gb200, 0, none⟩) (Kd.N_mono HO199.out (fun k_ hk => (⟨hk, hk.2⟩ : _ ∧ k_ ≠ gb200))) (fun _ hk => hk.2) (.slice none 0 0)) (fun _ hk => hk.2) (.slice Ao63 y197.length co63)) (fun _ h_ => h_.1)))); (case side4 => exact (Kd.N_reads' HO199.out).2.1); rintro e w68 ⟨v202, rfl, ho0, hb⟩; refine ⟨_, rfl, ?_⟩; have HO203 := Aside0.mk (Kd.R_lower ho0 below_sizeA); replace HO199 := Aside0.mk (Kd.N_elder' (by (with_reducible repeat (first | apply Kd.N_alloc | apply Kd.N_drewN | apply Kd.N_drew)); exact (Kd.N_mono (Kd.N_far (p := ⟨gb200, 1, none⟩) (Kd.N_far (p := ⟨gb200, 0, none⟩) (Kd.N_mono HO199.out (fun k_ hk => (⟨hk, hk.2⟩ : _ ∧ k_ ≠ gb200))) (fun _ hk => hk.2) (.slice none 0 0)) (fun _ hk => hk.2) (.slice Ao63 y197.length co63)) (fun _ h_ => h_.1))) (Kd.R_base ho0) hb); replace BK193 := Aside0.mk (blk_keepA BK193.out hb); replace BK200 := Aside0.mk (blk_below (g := gb200) (o := .cells #[.slice none 0 0, .slice Ao63 y197.length co63] 25 (0, 0)) (blk_move BK200.out) hb); replace HB := Aside0.mk (below_stepA hb); (try clear hb); (try clear ho0); have hz69 := blk2 BK200.out; have p3 : 0 ≤ (1 : Int) := (by omega); have q3 : (1 : Int) < ((y197.length : Int) : Int) := odA; have qi3 : (1 < y197.length) = True := eq_true (by omega); obtain ⟨go3, co3, eo3, gb3, gl3, cl3, HG3⟩ := Kd.N_form HO199.out (by omega); (first | cases eo3 | (injection eo3 with ea_ en_ ec_; (first | subst ea_ | (injection ea_ with ea_; subst ea_)); subst ec_; clear en_)); have GB3 := Aside0.mk gb3; have GG3 := Aside0.mk HG3; clear gb3 gl3 HG3; obtain ⟨ce3, hcl3, hM3, hcc3, hfr3⟩ := Kd.N_elem HO199.out z44 (1 : Int) p3 q3; obtain ⟨ua3_1, uc3_1, ua3_4, uc3_4, ua3_8, uc3_8, ua3_9, uc3_9, ua3_13, uc3_13, ua3_14, uc3_14, ua3_15, uc3_15, rfl, ul3_1, ge3_1, ul3_4, ge3_4, ul3_8, ge3_8, ul3_9, ge3_9, ul3_13, ge3_13, ul3_14, ge3_14, ul3_15, ge3_15⟩ := k44_openF hM3; have hx3_0 : w68.cell? ⟨go3, (1 : Int).toNat * 16, none⟩ = some (.int .i64 ((rd_T44 y197 1).f0)) := hcc3 0 _ rfl; have hx3_1 : w68.cell? ⟨go3, (1 : Int).toNat * 16 + 1, none⟩ = some (.slice ua3_1 ((rd_T44 y197 1).f1).length uc3_1) := hcc3 1 _ rfl; have hx3_2 : w68.cell? ⟨go3, (1 : Int).toNat * 16 + 2, none⟩ = some (.string ((rd_T44 y197 1).f2)) := hcc3 2 _ rfl; have hx3_3 : w68.cell? ⟨go3, (1 : Int).toNat * 16 + 3, none⟩ = some (.int .i64 ((rd_T44 y197 1).f3)) := hcc3 3 _ rfl; have hx3_4 : w68.cell? ⟨go3, (1 : Int).toNat * 16 + 4, none⟩ = some (.slice ua3_4 ((rd_T44 y197 1).f4).length uc3_4) := hcc3 4 _ rfl; have hx3_5 : w68.cell? ⟨go3, (1 : Int).toNat * 16 + 5, none⟩ = some (.int .i64 ((rd_T44 y197 1).f5)) := hcc3 5 _ rfl; have hx3_6 : w68.cell? ⟨go3, (1 : Int).toNat * 16 + 6, none⟩ = some (.int .i64 ((rd_T44 y197 1).f6)) := hcc3 6 _ rfl; have hx3_7 : w68.cell? ⟨go3, (1 : Int).toNat * 16 + 7, none⟩ = some (.int .i64 ((rd_T44 y197 1).f7)) := hcc3 7 _ rfl; have hx3_8 : w68.cell? ⟨go3, (1 : Int).toNat * 16 + 8, none⟩ = some (.slice ua3_8 ((rd_T44 y197 1).f8).length uc3_8) := hcc3 8 _ rfl; have hx3_9 : w68.cell? ⟨go3, (1 : Int).toNat * 16 + 9, none⟩ = some (.slice ua3_9 ((rd_T44 y197 1).f9).length uc3_9) := hcc3 9 _ rfl; have hx3_10 : w68.cell? ⟨go3, (1 : Int).toNat * 16 + 10, none⟩ = some (.int .i64 ((rd_T44 y197 1).f10)) := hcc3 10 _ rfl; have hx3_11 : w68.cell? ⟨go3, (1 : Int).toNat * 16 + 11, none⟩ = some (.int .i64 ((rd_T44 y197 1).f11)) := hcc3 11 _ rfl; have hx3_12 : w68.cell? ⟨go3, (1 : Int).toNat * 16 + 12, none⟩ = some (.int .i64 ((rd_T44 y197 1).f12)) := hcc3 12 _ rfl; have hx3_13 : w68.cell? ⟨go3, (1 : Int).toNat * 16 + 13, none⟩ = some (.slice ua3_13 ((rd_T44 y197 1).f13).length uc3_13) := hcc3 13 _ rfl; have hx3_14 : w68.cell? ⟨go3, (1 : Int).toNat * 16 + 14, none⟩ = some (.slice ua3_14 ((rd_T44 y197 1).f14).length uc3_14) := hcc3 14 _ rfl; have hx3_15 : w68.cell? ⟨go3, (1 : Int).toNat * 16 + 15, none⟩ = some (.slice ua3_15 ((rd_T44 y197 1).f15).length uc3_15) := hcc3 15 _ rfl; have hf3_0 : w68.frozen? ⟨go3, (1 : Int).toNat * 16, none⟩ = false := hfr3 0; have hf3_1 : w68.frozen? ⟨go3, (1 : Int).toNat * 16 + 1, none⟩ = false := hfr3 1; have hf3_2 : w68.frozen? ⟨go3, (1 : Int).toNat * 16 + 2, none⟩ = false := hfr3 2; have hf3_3 : w68.frozen? ⟨go3, (1 : Int).toNat * 16 + 3, none⟩ = false := hfr3 3; have hf3_4 : w68.frozen? ⟨go3, (1 : Int).toNat * 16 + 4, none⟩ = false := hfr3 4; have hf3_5 : w68.frozen? ⟨go3, (1 : Int).toNat * 16 + 5, none⟩ = false := hfr3 5; have hf3_6 : w68.frozen? ⟨go3, (1 : Int).toNat * 16 + 6, none⟩ = false := hfr3 6; have hf3_7 : w68.frozen? ⟨go3, (1 : Int).toNat * 16 + 7, none⟩ = false := hfr3 7; have hf3_8 : w68.frozen? ⟨go3, (1 : Int).toNat * 16 + 8, none⟩ = false := hfr3 8; have hf3_9 : w68.frozen? ⟨go3, (1 : Int).toNat * 16 + 9, none⟩ = false := hfr3 9; have hf3_10 : w68.frozen? ⟨go3, (1 : Int).toNat * 16 + 10, none⟩ = false := hfr3 10; have hf3_11 : w68.frozen? ⟨go3, (1 : Int).toNat * 16 + 11, none⟩ = false := hfr3 11; have hf3_12 : w68.frozen? ⟨go3, (1 : Int).toNat * 16 + 12, none⟩ = false := hfr3 12; have hf3_13 : w68.frozen? ⟨go3, (1 : Int).toNat * 16 + 13, none⟩ = false := hfr3 13; have hf3_14 : w68.frozen? ⟨go3, (1 : Int).toNat * 16 + 14, none⟩ = false := hfr3 14; have hf3_15 : w68.frozen? ⟨go3, (1 : Int).toNat * 16 + 15, none⟩ = false := hfr3 15; clear hcl3 hcc3 hfr3 hM3; (try rw [show ((1 : Int)).toNat = 1 from rfl] at hx3_0); (try simp only [Nat.reduceMul, Nat.zero_mul, Nat.zero_add, Nat.reduceAdd] at hx3_0); (try rw [show ((1 : Int)).toNat = 1 from rfl] at hf3_0); (try simp only [Nat.reduceMul, Nat.zero_mul, Nat.zero_add, Nat.reduceAdd] at hf3_0); (try rw [show ((1 : Int)).toNat = 1 from rfl] at hx3_1); (try simp only [Nat.reduceMul, Nat.zero_mul, Nat.zero_add, Nat.reduceAdd] at hx3_1); (try rw [show ((1 : Int)).toNat = 1 from rfl] at hf3_1); (try simp only [Nat.reduceMul, Nat.zero_mul, Nat.zero_add, Nat.reduceAdd] at hf3_1); (try rw [show ((1 : Int)).toNat = 1 from rfl] at hx3_2); (try simp only [Nat.reduceMul, Nat.zero_mul, Nat.zero_add, Nat.reduceAdd] at hx3_2); (try rw [show ((1 : Int)).toNat = 1 from rfl] at hf3_2); (try simp only [Nat.reduceMul, Nat.zero_mul, Nat.zero_add, Nat.reduceAdd] at hf3_2); (try rw [show ((1 : Int)).toNat = 1 from rfl] at hx3_3); (try simp only [Nat.reduceMul, Nat.zero_mul, Nat.zero_add, Nat.reduceAdd] at hx3_3); (try rw [show ((1 : Int)).toNat = 1 from rfl] at hf3_3); (try simp only [Nat.reduceMul, Nat.zero_mul, Nat.zero_add, Nat.reduceAdd] at hf3_3); (try rw [show ((1 : Int)).toNat = 1 from rfl] at hx3_4); (try simp only [Nat.reduceMul, Nat.zero_mul, Nat.zero_add, Nat.reduceAdd] at hx3_4); (try rw [show ((1 : Int)).toNat = 1 from rfl] at hf3_4); (try simp only [Nat.reduceMul, Nat.zero_mul, Nat.zero_add, Nat.reduceAdd] at hf3_4); (try rw [show ((1 : Int)).toNat = 1 from rfl] at hx3_5); (try simp only [Nat.reduceMul, Nat.zero_mul, Nat.zero_add, Nat.reduceAdd] at hx3_5); (try rw [show ((1 : Int)).toNat = 1 from rfl] at hf3_5); (try simp only [Nat.reduceMul, Nat.zero_mul, Nat.zero_add, Nat.reduceAdd] at hf3_5); (try rw [show ((1 : Int)).toNat = 1 from rfl] at hx3_6); (try simp only [Nat.reduceMul, Nat.zero_mul, Nat.zero_add, Nat.reduceAdd] at hx3_6); (try rw [show ((1 : Int)).toNat = 1 from rfl] at hf3_6); (try simp only [Nat.reduceMul, Nat.zero_mul, Nat.zero_add, Nat.reduceAdd] at hf3_6); (try rw [show ((1 : Int)).toNat = 1 from rfl] at hx3_7); (try simp only [Nat.reduceMul, Nat.zero_mul, Nat.zero_add, Nat.reduceAdd] at hx3_7); (try rw [show ((1 : Int)).toNat = 1 from rfl] at hf3_7); (try simp only [Nat.reduceMul, Nat.zero_mul, Nat.zero_add, Nat.reduceAdd] at hf3_7); (try rw [show ((1 : Int)).toNat = 1 from rfl] at hx3_8); (try simp only [Nat.reduceMul, Nat.zero_mul, Nat.zero_add, Nat.reduceAdd] at hx3_8); (try rw [show ((1 : Int)).toNat = 1 from rfl] at hf3_8); (try simp only [Nat.reduceMul, Nat.zero_mul, Nat.zero_add, Nat.reduceAdd] at hf3_8); (try rw [show ((1 : Int)).toNat = 1 from rfl] at hx3_9); (try simp only [Nat.reduceMul, Nat.zero_mul, Nat.zero_add, Nat.reduceAdd] at hx3_9); (try rw [show ((1 : Int)).toNat = 1 from rfl] at hf3_9); (try simp only [Nat.reduceMul, Nat.zero_mul, Nat.zero_add, Nat.reduceAdd] at hf3_9); (try rw [show ((1 : Int)).toNat = 1 from rfl] at hx3_10); (try simp only [Nat.reduceMul, Nat.zero_mul, Nat.zero_add, Nat.reduceAdd] at hx3_10); (try rw [show ((1 : Int)).toNat = 1 from rfl] at hf3_10); (try simp only [Nat.reduceMul, Nat.zero_mul, Nat.zero_add, Nat.reduceAdd] at hf3_10); (try rw [show ((1 : Int)).toNat = 1 from rfl] at hx3_11); (try simp only [Nat.reduceMul, Nat.zero_mul, Nat.zero_add, Nat.reduceAdd] at hx3_11); (try rw [show ((1 : Int)).toNat = 1 from rfl] at hf3_11); (try simp only [Nat.reduceMul, Nat.zero_mul, Nat.zero_add, Nat.reduceAdd] at hf3_11); (try rw [show ((1 : Int)).toNat = 1 from rfl] at hx3_12); (try simp only [Nat.reduceMul, Nat.zero_mul, Nat.zero_add, Nat.reduceAdd] at hx3_12); (try rw [show ((1 : Int)).toNat = 1 from rfl] at hf3_12); (try simp only [Nat.reduceMul, Nat.zero_mul, Nat.zero_add, Nat.reduceAdd] at hf3_12); (try rw [show ((1 : Int)).toNat = 1 from rfl] at hx3_13); (try simp only [Nat.reduceMul, Nat.zero_mul, Nat.zero_add, Nat.reduceAdd] at hx3_13); (try rw [show ((1 : Int)).toNat = 1 from rfl] at hf3_13); (try simp only [Nat.reduceMul, Nat.zero_mul, Nat.zero_add, Nat.reduceAdd] at hf3_13); (try rw [show ((1 : Int)).toNat = 1 from rfl] at hx3_14); (try simp only [Nat.reduceMul, Nat.zero_mul, Nat.zero_add, Nat.reduceAdd] at hx3_14); (try rw [show ((1 : Int)).toNat = 1 from rfl] at hf3_14); (try simp only [Nat.reduceMul, Nat.zero_mul, Nat.zero_add, Nat.reduceAdd] at hf3_14); (try rw [show ((1 : Int)).toNat = 1 from rfl] at hx3_15); (try simp only [Nat.reduceMul, Nat.zero_mul, Nat.zero_add, Nat.reduceAdd] at hx3_15); (try rw [show ((1 : Int)).toNat = 1 from rfl] at hf3_15); (try simp only [Nat.reduceMul, Nat.zero_mul, Nat.zero_add, Nat.reduceAdd] at hf3_15); replace p3 := eq_true p3; replace q3 := eq_true q3; have n_ := Aside0.mk (Kd.N_mono (ok' := (fun k_ => some k_ ≠ (v202 : Value).ownBlock ∧ k_ ≠ gb193 ∧ k_ ≠ gb200)) HO199.out (fun k_ hk => ⟨hk.2, ⟨hk.1.1, hk.1.2⟩⟩)); clear HO199; have HO199 := n_; clear n_; have HX70 := Aside0.mk (show Kd.N k44 44 w68 w.heap.size (fun k_ => some k_ ≠ (v202 : Value).ownBlock ∧ k_ ≠ gb193 ∧ k_ ≠ gb200) (.slice (some ⟨go3, 0, none⟩) y197.length co63) y197 from (by (with_reducible repeat (first | apply Kd.N_alloc | apply Kd.N_drewN | apply Kd.N_drew)); exact HO199.out)); obtain ⟨ce70, hcl70, hM70, hcc70, hfr70⟩ := Kd.N_elem HX70.out z44 (1 : Int) (by omega) (by have h_ : (1 : Int) < ((y197.length : Int) : Int) := odA; first | exact h_ | (have e_ := (Kd.N_reads' HO199.out).1; omega) | simpa using h_); obtain ⟨ua70_1, uc70_1, ua70_4, uc70_4, ua70_8, uc70_8, ua70_9, uc70_9, ua70_13, uc70_13, ua70_14, uc70_14, ua70_15, uc70_15, rfl, ul70_1, ge70_1, ul70_4, ge70_4, ul70_8, ge70_8, ul70_9, ge70_9, ul70_13, ge70_13, ul70_14, ge70_14, ul70_15, ge70_15⟩ := k44_openF hM70; have HP70 := Kd.N_seg HX70.out (1 : Int) (by omega) (by have h_ : (1 : Int) < ((y197.length : Int) : Int) := odA; first | exact h_ | (have e_ := (Kd.N_reads' HO199.out).1; omega) | simpa using h_) (seg := [.int .i64 (-1)]) (j := 6) hcl70 hcc70 (show 7 ≤ 16 from by decide) (x' := (⟨(rd_T44 y197 1).f0, (rd_T44 y197 1).f1, (rd_T44 y197 1).f2, (rd_T44 y197 1).f3, (rd_T44 y197 1).f4, (rd_T44 y197 1).f5, (-1), (rd_T44 y197 1).f7, (rd_T44 y197 1).f8, (rd_T44 y197 1).f9, (rd_T44 y197 1).f10, (rd_T44 y197 1).f11, (rd_T44 y197 1).f12, (rd_T44 y197 1).f13, (rd_T44 y197 1).f14, (rd_T44 y197 1).f15⟩ : S44)) (k44_mkF _ _ (⟨(rd_T44 y197 1).f0, (rd_T44 y197 1).f1, (rd_T44 y197 1).f2, (rd_T44 y197 1).f3, (rd_T44 y197 1).f4, (rd_T44 y197 1).f5, (-1), (rd_T44 y197 1).f7, (rd_T44 y197 1).f8, (rd_T44 y197 1).f9, (rd_T44 y197 1).f10, (rd_T44 y197 1).f11, (rd_T44 y197 1).f12, (rd_T44 y197 1).f13, (rd_T44 y197 1).f14, (rd_T44 y197 1).f15⟩ : S44) ul70_1 ge70_1 ul70_4 ge70_4 ul70_8 ge70_8 ul70_9 ge70_9 ul70_13 ge70_13 ul70_14 ge70_14 ul70_15 ge70_15) (fun _ hk => hk); have hx70_6 := hcc70 6 _ rfl; (try simp only [show (k44).sz = 16 from rfl, Nat.mul_one, Nat.add_zero] at hx70_6); (try rw [show ((1 : Int)).toNat = 1 from rfl] at hx70_6); (try simp only [Nat.reduceMul, Nat.zero_mul, Nat.zero_add, Nat.reduceAdd] at hx70_6); have hf70_6 := hfr70 6; (try simp only [show (k44).sz = 16 from rfl, Nat.mul_one, Nat.add_zero] at hf70_6); (try rw [show ((1 : Int)).toNat = 1 from rfl] at hf70_6); (try simp only [Nat.reduceMul, Nat.zero_mul, Nat.zero_add, Nat.reduceAdd] at hf70_6); clear hcl70 hcc70 hfr70 hM70) | ((with_reducible refine gate_store (t := 3) (p := 25) rfl ?_); refine store_event (t := 3) (p := 25) (v := ?vo_w71) (w1 := (w68.setCell ⟨go3, 22, none⟩ (.int .i64 (-1)))) ?hg ?ho ?hn ?hr ?_; (case ho => rfl); (case hg => rfl); (case hn => rfl); (case hr => first | (go_simp; done) | (go_simp; rfl)); intro w71 hw; have hg : w68.grownBy w71 (some go3) := (by rw [hw]; exact HP70.2); have hp_ : Kd.N k44 44 w71 w.heap.size (fun k_ => some k_ ≠ (v202 : Value).ownBlock ∧ k_ ≠ gb193 ∧ k_ ≠ gb200) (.slice (some ⟨go3, 0, none⟩) y197.length co63) y206 := (by rw [hw, Ny206.out]; exact HP70.1); clear HP70; have n0_ := Aside0.mk (blk_grown (g := gb193) (o := .cells #[.int .i64 2, .int .i64 0, .int .i64 10, .int .i64 5, .int .i64 3, .int .i64 20] 27 (0, 0)) (blk_move BK193.out) hg (Kd.N_ne HO199.out BK193.out (by decide))); have n1_ := Aside0.mk (hp_); have n2_ := Aside0.mk (blk_grown (g := gb200) (o := .cells #[.slice none 0 0, .slice (some ⟨go3, 0, none⟩) y197.length co63] 25 (0, 0)) (blk_move BK200.out) hg (Kd.N_ne HO199.out BK200.out (by decide))); have n3_ := Aside0.mk (Kd.R_over' (v := (.slice (some ⟨go3, 0, none⟩) y197.length co63)) (by (with_reducible repeat (first | apply Kd.R_alloc | apply Kd.R_drewN | apply Kd.R_drew)); exact HO203.out) (Kd.N_typed HO199.out) (by decide) hg); have n4_ := Aside0.mk ((by rw [hw]; exact below_set (HB.out) GB3.out : Below w.heap.size w w71)); clear BK193; clear HO199; clear BK200; clear HO203; clear HB; have BK193 := n0_; have HO199 := n1_; have BK200 := n2_; have HO203 := n3_; have HB := n4_; clear n0_ n1_ n2_ n3_ n4_; clear hg hw hp_; have hz72 := blk2 BK200.out; have hz73 := blk6 BK193.out) | ((with_reducible refine gate_callee (f := 9) rfl ?_); refine goesL_ (some 29) rfl rfl Try.func9 (by kernel_rfl) rfl #[.agg #[.slice none 0 0, .slice (some ⟨go3, 0, none⟩) y206.length co63], .agg #[.int .i64 2, .int .i64 0, .int .i64 10, .int .i64 5, .int .i64 3, .int .i64 20]] rfl (by (try simp only [List.map_toArray, List.map_cons, List.map_nil]); first | done | (rw [show y206.length = y197.length from (Kd.N_reads' HO199.out).1.symm] <;> rfl) | rfl | (simp only [List.length_drop, List.length_take]; rfl)) ?_; (refine (bounds_Analyze.calls k _ _ ([] : List (S95)) _ _ y206 2 0 10 5 3 20 t207 t210 t211 _ ?side1 ?side2 ?side3 ?side4 A4.out).mono ?_); (case side1 => exact Kd.C_nil _ _); (case side2 => exact Nat.le_refl _); (case side3 => repeat (first | exact (Kd.N_reads' HO199.out).2.2 | (with_reducible refine Kd.C_alloc ?_ _) | (with_reducible refine Kd.C_drewN ?_ _) | (with_reducible refine Kd.C_drew ?_))); (case side4 => rw [show y206.length = y197.length from (Kd.N_reads' HO199.out).1.symm]; exact (Kd.N_reads' HO199.out).2.1); rintro e w74 ⟨v208, rfl, ho0, hb⟩; refine ⟨_, rfl, ?_⟩; have HO209 := Aside0.mk (Kd.R_lower (Kd.R_new' ho0 (Kd.R_lt (by (with_reducible repeat (first | apply Kd.R_alloc | apply Kd.R_drewN | apply Kd.R_drew)); exact HO203.out))) below_sizeA); replace HO199 := Aside0.mk (Kd.N_elder' (by (with_reducible repeat (first | apply Kd.N_alloc | apply Kd.N_drewN | apply Kd.N_drew)); exact HO199.out) (Kd.R_base ho0) hb); replace HO203 := Aside0.mk (Kd.R_elder' (by (with_reducible repeat (first | apply Kd.R_alloc | apply Kd.R_drewN | apply Kd.R_drew)); exact HO203.out) (Kd.R_base ho0) hb); replace BK193 := Aside0.mk (blk_keepA BK193.out hb); replace BK200 := Aside0.mk (blk_keepA BK200.out hb); replace HB := Aside0.mk (below_stepA hb); (try clear hb); (try clear ho0)) | ((with_reducible refine gate_dst (N := 43) rfl ?_); (try (refine gate_guard (by rfl) ?_; dsimp only)); refine Kd.R_lit k37 _ 37 ?hg (N := 43) ?hd (xs := ([(⟨0, 0, 6, 0⟩ : S37), (⟨59, 59, 360, 474⟩ : S37)] : List (S37))) (inner := [.int .i64 0, .int .i64 0, .int .i64 6, .int .i64 0, .int .i64 59, .int .i64 59, .int .i64 360, .int .i64 474]) (ok := fun _ => True) (okp := fun _ => True) ?hr ?hp (fun _ hk => hk) trivial (Below.refl _ _) (Nat.le_refl _) (by simp) ?_; (case hd => rfl); (case hg => rfl); (case hr => first | (go_simp; done) | (go_simp; rfl)); (case hp => exact (Reps.c4 (show Kd.M k37 _ _ _ (⟨0, 0, 6, 0⟩ : S37) [.int .i64 0, .int .i64 0, .int .i64 6, .int .i64 0] from (k37_mkM _ _ _ (⟨0, 0, 6, 0⟩ : S37) )) (Reps.c4 (show Kd.M k37 _ _ _ (⟨59, 59, 360, 474⟩ : S37) [.int .i64 59, .int .i64 59, .int .i64 360, .int .i64 474] from (k37_mkM _ _ _ (⟨59, 59, 360, 474⟩ : S37) )) (Reps.none _ _)))); intro v213 w75 ho76 hb hg_ hnew_; clear hg_ hnew_; (first | rw [← Ny212.out] at ho76 | (simp only [Int.reduceToNat] at ho76; rw [← Ny212.out] at ho76)); have HO214 := Aside0.mk (Kd.R_lower (Kd.R_new' (Kd.R_new' ho76 (Kd.R_lt (by (with_reducible repeat (first | apply Kd.R_alloc | apply Kd.R_drewN | apply Kd.R_drew)); exact HO203.out))) (Kd.R_lt (by (with_reducible repeat (first | apply Kd.R_alloc | apply Kd.R_drewN | apply Kd.R_drew)); exact HO209.out))) below_sizeA); replace HO199 := Aside0.mk (Kd.N_elder' (by (with_reducible repeat (first | apply Kd.N_alloc | apply Kd.N_drewN | apply Kd.N_drew)); exact HO199.out) (Kd.R_base ho76) hb); replace HO203 := Aside0.mk (Kd.R_elder' (by (with_reducible repeat (first | apply Kd.R_alloc | apply Kd.R_drewN | apply Kd.R_drew)); exact HO203.out) (Kd.R_base ho76) hb); replace HO209 := Aside0.mk (Kd.R_elder' (by (with_reducible repeat (first | apply Kd.R_alloc | apply Kd.R_drewN | apply Kd.R_drew)); exact HO209.out) (Kd.R_base ho76) hb); replace BK193 := Aside0.mk (blk_keepA BK193.out hb); replace BK200 := Aside0.mk (blk_keepA BK200.out hb); replace HB := Aside0.mk (below_stepA hb); clear hb ho76; obtain ⟨Ao77, co77, eo77⟩ := Kd.R_slice HO203.out; subst eo77; obtain ⟨Ao78, co78, eo78⟩ := Kd.R_slice HO214.out; subst eo78) | (go_at_call 11; (with_reducible refine (errataref20_Same.calls k _ _ t201 _ _ y212 false _ ?side1 ?side2 ?side3 ?side4 A7.out).mono ?_); (case side1 => repeat (first | exact (Kd.R_reads' HO203.out).2.2 | (with_reducible refine Kd.C_alloc ?_ _) | (with_reducible refine Kd.C_drewN ?_ _) | (with_reducible refine Kd.C_drew ?_))); (case side2 => exact (Kd.R_reads' HO203.out).2.1); (case side3 => repeat (first | exact (Kd.R_reads' HO214.out).2.2 | (with_reducible refine Kd.C_alloc ?_ _) | (with_reducible refine Kd.C_drewN ?_ _) | (with_reducible refine Kd.C_drew ?_))); (case side4 => exact (Kd.R_reads' HO214.out).2.1); rintro e w' ⟨rfl, ⟨nd, rfl⟩⟩))
    go_ret
    exact ⟨by first | rfl | (simp [errW_none, errW_some] <;> rfl) | (simp [*, errW_none, errW_some] <;> rfl), belowA⟩
  ·
   rw [if_neg c6] at H
   have c6b0 : (t204 == (-1)) = false := beq_eq_false_iff_ne.mpr c6
   have c6b1 : (t204 != (-1)) = true := bne_iff_ne.mpr c6
   obtain rfl := Option.some.inj H
   go_enter Try.func7, Try.ntmps7
   go_wp2_with (first | ((with_reducible refine gate_dst (N := 1) rfl ?_); (try (refine gate_guard (by rfl) ?_; dsimp only)); refine box_event ?hg (N := 1) ?hd (cs := #[.int .i64 0, .int .i64 0, .int .i64 0, .int .i64 0, .int .i64 0, .int .i64 0]) (t := 27) ?hr ?_; (case hd => rfl); (case hg => rfl); (case hr => first | (go_simp; done) | (go_simp; rfl)); intro gb193 hg w79 hbox hb; have BK193 := Aside0.mk (hbox); have GW193 := Aside0.mk ((by rw [hg]; exact below_sizeA : w.heap.size ≤ gb193)); have GE193 := GW193; replace HB := Aside0.mk (below_stepA hb); clear hb hbox hg; have hz80 := blk6 BK193.out) | ((with_reducible refine gate_dst (N := 11) rfl ?_); (try (refine gate_guard (by rfl) ?_; dsimp only)); refine Kd.R_lit (Kd.int .i64) _ 3 ?hg (N := 11) ?hd (xs := ([0] : List Int)) (inner := [.int .i64 0]) (ok := fun _ => True) (okp := fun _ => True) ?hr ?hp (fun _ hk => hk) trivial (Below.refl _ _) (Nat.le_refl _) (by simp) ?_; (case hd => rfl); (case hg => rfl); (case hr => first | (go_simp; done) | (go_simp; rfl)); (case hp => exact (Reps.one (show Kd.M (Kd.int .i64) _ _ _ 0 [.int .i64 0] from rfl) (Reps.none _ _))); intro v195 w81 ho82 hb hg_ hnew_; clear hg_ hnew_; (first | rw [← Ny194.out] at ho82 | (simp only [Int.reduceToNat] at ho82; rw [← Ny194.out] at ho82)); have HO196 := Aside0.mk (Kd.R_lower ho82 below_sizeA); replace BK193 := Aside0.mk (blk_below (g := gb193) (o := .cells #[.int .i64 2, .int .i64 0, .int .i64 10, .int .i64 5, .int .i64 3, .int .i64 20] 27 (0, 0)) (blk_move BK193.out) hb); replace HB := Aside0.mk (below_stepA hb); clear hb ho82; obtain ⟨Ao83, co83, eo83⟩ := Kd.R_slice HO196.out; subst eo83) | ((with_reducible refine gate_dst (N := 13) rfl ?_); (try (refine gate_guard (by rfl) ?_; dsimp only)); refine Kd.N_lit k44 _ 44 ?hg (N' := 13) ?hd (xs := ([(⟨0, ([] : List Int), (⟨#[]⟩ : ByteArray), 0, ([] : List (S93)), 0, 0, 0, ([] : List Int), ([] : List Int), 0, 0, 0, ([] : List (S97)), ([] : List (S99)), ([] : List (S50))⟩ : S44), (⟨4, y194, (⟨#[]⟩ : ByteArray), 0, ([] : List (S93)), 0, 60, 0, ([] : List Int), ([] : List Int), 0, 0, 0, ([] : List (S97)), ([] : List (S99)), ([] : List (S50))⟩ : S44)] : List (S44))) (inner := [.int .i64 0, .slice none 0 0, .string (⟨#[]⟩ : ByteArray), .int .i64 0, .slice none 0 0, .int .i64 0, .int .i64 0, .int .i64 0, .slice none 0 0, .slice none 0 0, .int .i64 0, .int .i64 0, .int .i64 0, .slice none 0 0, .slice none 0 0, .slice none 0 0, .int .i64 4, .slice Ao83 y194.length co83, .string (⟨#[]⟩ : ByteArray), .int .i64 0, .slice none 0 0, .int .i64 0, .int .i64 60, .int .i64 0, .slice none 0 0, .slice none 0 0, .int .i64 0, .int .i64 0, .int .i64 0, .slice none 0 0, .slice none 0 0, .slice none 0 0]) (ok := (fun k_ => k_ ≠ gb193)) (okp := (fun k_ => k_ ≠ gb193)) ?hr ?hp (fun _ hk => hk) ((show ∀ k_, w81.heap.size ≤ k_ → (fun k_ => k_ ≠ gb193) k_ from fun k_ hk => Kd.freshB (g := gb193) (o := .cells #[.int .i64 2, .int .i64 0, .int .i64 10, .int .i64 5, .int .i64 3, .int .i64 20] 27 (0, 0)) (blk_move BK193.out) k_ hk) _ (Nat.le_refl _)) (Below.refl _ _) (Nat.le_refl _) (by simp) ?_; (case hd => rfl); (case hg => rfl); (case hr => first | (go_simp; done) | (go_simp; rfl)); (case hp => exact (Reps.front (show Kd.FK k44 _ _ (⟨0, ([] : List Int), (⟨#[]⟩ : ByteArray), 0, ([] : List (S93)), 0, 0, 0, ([] : List Int), ([] : List Int), 0, 0, 0, ([] : List (S97)), ([] : List (S99)), ([] : List (S50))⟩ : S44) [.int .i64 0, .slice none 0 0, .string (⟨#[]⟩ : ByteArray), .int .i64 0, .slice none 0 0, .int .i64 0, .int .i64 0, .int .i64 0, .slice none 0 0, .slice none 0 0, .int .i64 0, .int .i64 0, .int .i64 0, .slice none 0 0, .slice none 0 0, .slice none 0 0] from (k44_mkF _ _ (⟨0, ([] : List Int), (⟨#[]⟩ : ByteArray), 0, ([] : List (S93)), 0, 0, 0, ([] : List Int), ([] : List Int), 0, 0, 0, ([] : List (S97)), ([] : List (S99)), ([] : List (S50))⟩ : S44) (Nat.le_refl _) (Kd.F_nil _ _ _) (Nat.le_refl _) (Kd.F_nil _ _ _) (Nat.le_refl _) (Kd.F_nil _ _ _) (Nat.le_refl _) (Kd.F_nil _ _ _) (Nat.le_refl _) (Kd.F_nil _ _ _) (Nat.le_refl _) (Kd.F_nil _ _ _) (Nat.le_refl _) (Kd.F_nil _ _ _))) rfl (Reps.front (show Kd.FK k44 _ _ (⟨4, y194, (⟨#[]⟩ : ByteArray), 0, ([] : List (S93)), 0, 60, 0, ([] : List Int), ([] : List Int), 0, 0, 0, ([] : List (S97)), ([] : List (S99)), ([] : List (S50))⟩ : S44) [.int .i64 4, .slice Ao83 y194.length co83, .string (⟨#[]⟩ : ByteArray), .int .i64 0, .slice none 0 0, .int .i64 0, .int .i64 60, .int .i64 0, .slice none 0 0, .slice none 0 0, .int .i64 0, .int .i64 0, .int .i64 0, .slice none 0 0, .slice none 0 0, .slice none 0 0] from (k44_mkF _ _ (⟨4, y194, (⟨#[]⟩ : ByteArray), 0, ([] : List (S93)), 0, 60, 0, ([] : List Int), ([] : List Int), 0, 0, 0, ([] : List (S97)), ([] : List (S99)), ([] : List (S50))⟩ : S44) (Kd.R_reads' (Kd.R_mono (ok' := (fun k_ => k_ ≠ gb193)) (Kd.R_types (HO196.out) BK193.out (by decide)) (fun k_ hk => hk.2))).2.1 (Kd.R_F (Kd.R_mono (ok' := (fun k_ => k_ ≠ gb193)) (Kd.R_types (HO196.out) BK193.out (by decide)) (fun k_ hk => hk.2))) (Nat.le_refl _) (Kd.F_nil _ _ _) (Nat.le_refl _) (Kd.F_nil _ _ _) (Nat.le_refl _) (Kd.F_nil _ _ _) (Nat.le_refl _) (Kd.F_nil _ _ _) (Nat.le_refl _) (Kd.F_nil _ _ _) (Nat.le_refl _) (Kd.F_nil _ _ _))) rfl (Reps.none _ _) rfl) rfl)); intro v198 w84 ho85 hb hg_ hnew_; clear hg_ hnew_; (first | rw [← Ny197.out] at ho85 | (simp only [Int.reduceToNat] at ho85; rw [← Ny197.out] at ho85)); have n0_ := Aside0.mk (Kd.N_lower ho85 below_sizeA); have n1_ := Aside0.mk (blk_keepA BK193.out hb); have n2_ := Aside0.mk (below_stepA hb); clear BK193; clear HB; clear HO196; have HO199 := n0_; have BK193 := n1_; have HB := n2_; clear n0_ n1_ n2_; clear hb ho85; obtain ⟨Ao86, co86, eo86⟩ := Kd.N_slice HO199.out; subst eo86) | ((with_reducible refine gate_dst (N := 2) rfl ?_); (try (refine gate_guard (by rfl) ?_; dsimp only)); refine box_event ?hg (N := 2) ?hd (cs := #[.slice none 0 0, .slice none 0 0]) (t := 25) ?hr ?_; (case hd => rfl); (case hg => rfl); (case hr => first | (go_simp; done) | (go_simp; rfl)); intro gb200 hg w87 hbox hb; have BK200 := Aside0.mk (hbox); have GW200 := Aside0.mk ((by rw [hg]; exact below_sizeA : w.heap.size ≤ gb200)); have GE200 := GW200; have NB193_200 := Aside0.mk ((by rw [hg]; exact Nat.ne_of_lt (blk_ltKA BK193.out) : gb193 ≠ gb200)); have NB200_193 := Aside0.mk NB193_200.out.symm; replace HO199 := Aside0.mk (Kd.N_below (Kd.N_elderB (by (with_reducible repeat (first | apply Kd.N_alloc | apply Kd.N_drewN | apply Kd.N_drew)); exact HO199.out) gb200 (Nat.le_of_eq hg.symm)) hb); replace BK193 := Aside0.mk (blk_keepA BK193.out hb); replace HB := Aside0.mk (below_stepA hb); clear hb hbox hg; have hnb88 := NB200_193.out; have hnc88 := NB193_200.out; have hz89 := blk2 BK200.out; have hz90 := blk6 BK193.out) | ((with_reducible refine gate_callee (f := 9) rfl ?_); refine goesL_ (some 18) rfl rfl Try.func9 (by kernel_rfl) rfl #[.agg #[.slice none 0 0, .slice Ao86 y197.length co86], .agg #[.int .i64 2, .int .i64 0, .int .i64 10, .int .i64 5, .int .i64 3, .int .i64 20]] rfl mapA ?_; (refine (bounds_Analyze.calls k _ _ ([] : List (S95)) _ _ y197 2 0 10 5 3 20 t201 t204 t205 _ ?side1 ?side2 ?side3 ?side4 A1.out).mono ?_); (case side1 => exact Kd.C_nil _ _); (case side2 => exact Nat.le_refl _); (case side3 => refine (Kd.N_reads' (e := 44) (base := w.heap.size) (ok := fun k_ => (k_ ≠ gb193 ∧ k_ ≠ gb200)) (n := y197.length) (c := co86) ?_).2.2; exact (by (with_reducible repeat (first | apply Kd.N_alloc | apply Kd.N_drewN | apply Kd.N_drew)); exact (Kd.N_mono (Kd.N_far (p := ⟨gb200, 1, none⟩) (Kd.N_far (p := ⟨gb200, 0, none⟩) (Kd.N_mono HO199.out (fun k_ hk => (⟨hk, hk.2⟩ : _ ∧ k_ ≠ gb200))) (fun _ hk => hk.2) (.slice none 0 0)) (fun _ hk => hk.2) (.slice Ao86 y197.length co86)) (fun _ h_ => h_.1)))); (case side4 => exact (Kd.N_reads' HO199.out).2.1); rintro e w91 ⟨v202, rfl, ho0, hb⟩; refine ⟨_, rfl, ?_⟩; have HO203 := Aside0.mk (Kd.R_lower ho0 below_sizeA); replace HO199 := Aside0.mk (Kd.N_elder' (by (with_reducible repeat (first | apply Kd.N_alloc | apply Kd.N_drewN | apply Kd.N_drew)); exact (Kd.N_mono (Kd.N_far (p := ⟨gb200, 1, none⟩) (Kd.N_far (p := ⟨gb200, 0, none⟩) (Kd.N_mono HO199.out (fun k_ hk => (⟨hk, hk.2⟩ : _ ∧ k_ ≠ gb200))) (fun _ hk => hk.2) (.slice none 0 0)) (fun _ hk => hk.2) (.slice Ao86 y197.length co86)) (fun _ h_ => h_.1))) (Kd.R_base ho0) hb); replace BK193 := Aside0.mk (blk_keepA BK193.out hb); replace BK200 := Aside0.mk (blk_below (g := gb200) (o := .cells #[.slice none 0 0, .slice Ao86 y197.length co86] 25 (0, 0)) (blk_move BK200.out) hb); replace HB := Aside0.mk (below_stepA hb); (try clear hb); (try clear ho0); have hz92 := blk2 BK200.out; have p3 : 0 ≤ (1 : Int) := (by omega); have q3 : (1 : Int) < ((y197.length : Int) : Int) := odA; have qi3 : (1 < y197.length) = True := eq_true (by omega); obtain ⟨go3, co3, eo3, gb3, gl3, cl3, HG3⟩ := Kd.N_form HO199.out (by omega); (first | cases eo3 | (injection eo3 with ea_ en_ ec_; (first | subst ea_ | (injection ea_ with ea_; subst ea_)); subst ec_; clear en_)); have GB3 := Aside0.mk gb3; have GG3 := Aside0.mk HG3; clear gb3 gl3 HG3; obtain ⟨ce3, hcl3, hM3, hcc3, hfr3⟩ := Kd.N_elem HO199.out z44 (1 : Int) p3 q3; obtain ⟨ua3_1, uc3_1, ua3_4, uc3_4, ua3_8, uc3_8, ua3_9, uc3_9, ua3_13, uc3_13, ua3_14, uc3_14, ua3_15, uc3_15, rfl, ul3_1, ge3_1, ul3_4, ge3_4, ul3_8, ge3_8, ul3_9, ge3_9, ul3_13, ge3_13, ul3_14, ge3_14, ul3_15, ge3_15⟩ := k44_openF hM3; have hx3_0 : w91.cell? ⟨go3, (1 : Int).toNat * 16, none⟩ = some (.int .i64 ((rd_T44 y197 1).f0)) := hcc3 0 _ rfl; have hx3_1 : w91.cell? ⟨go3, (1 : Int).toNat * 16 + 1, none⟩ = some (.slice ua3_1 ((rd_T44 y197 1).f1).length uc3_1) := hcc3 1 _ rfl; have hx3_2 : w91.cell? ⟨go3, (1 : Int).toNat * 16 + 2, none⟩ = some (.string ((rd_T44 y197 1).f2)) := hcc3 2 _ rfl; have hx3_3 : w91.cell? ⟨go3, (1 : Int).toNat * 16 + 3, none⟩ = some (.int .i64 ((rd_T44 y197 1).f3)) := hcc3 3 _ rfl; have hx3_4 : w91.cell? ⟨go3, (1 : Int).toNat * 16 + 4, none⟩ = some (.slice ua3_4 ((rd_T44 y197 1).f4).length uc3_4) := hcc3 4 _ rfl; have hx3_5 : w91.cell? ⟨go3, (1 : Int).toNat * 16 + 5, none⟩ = some (.int .i64 ((rd_T44 y197 1).f5)) := hcc3 5 _ rfl; have hx3_6 : w91.cell? ⟨go3, (1 : Int).toNat * 16 + 6, none⟩ = some (.int .i64 ((rd_T44 y197 1).f6)) := hcc3 6 _ rfl; have hx3_7 : w91.cell? ⟨go3, (1 : Int).toNat * 16 + 7, none⟩ = some (.int .i64 ((rd_T44 y197 1).f7)) := hcc3 7 _ rfl; have hx3_8 : w91.cell? ⟨go3, (1 : Int).toNat * 16 + 8, none⟩ = some (.slice ua3_8 ((rd_T44 y197 1).f8).length uc3_8) := hcc3 8 _ rfl; have hx3_9 : w91.cell? ⟨go3, (1 : Int).toNat * 16 + 9, none⟩ = some (.slice ua3_9 ((rd_T44 y197 1).f9).length uc3_9) := hcc3 9 _ rfl; have hx3_10 : w91.cell? ⟨go3, (1 : Int).toNat * 16 + 10, none⟩ = some (.int .i64 ((rd_T44 y197 1).f10)) := hcc3 10 _ rfl; have hx3_11 : w91.cell? ⟨go3, (1 : Int).toNat * 16 + 11, none⟩ = some (.int .i64 ((rd_T44 y197 1).f11)) := hcc3 11 _ rfl; have hx3_12 : w91.cell? ⟨go3, (1 : Int).toNat * 16 + 12, none⟩ = some (.int .i64 ((rd_T44 y197 1).f12)) := hcc3 12 _ rfl; have hx3_13 : w91.cell? ⟨go3, (1 : Int).toNat * 16 + 13, none⟩ = some (.slice ua3_13 ((rd_T44 y197 1).f13).length uc3_13) := hcc3 13 _ rfl; have hx3_14 : w91.cell? ⟨go3, (1 : Int).toNat * 16 + 14, none⟩ = some (.slice ua3_14 ((rd_T44 y197 1).f14).length uc3_14) := hcc3 14 _ rfl; have hx3_15 : w91.cell? ⟨go3, (1 : Int).toNat * 16 + 15, none⟩ = some (.slice ua3_15 ((rd_T44 y197 1).f15).length uc3_15) := hcc3 15 _ rfl; have hf3_0 : w91.frozen? ⟨go3, (1 : Int).toNat * 16, none⟩ = false := hfr3 0; have hf3_1 : w91.frozen? ⟨go3, (1 : Int).toNat * 16 + 1, none⟩ = false := hfr3 1; have hf3_2 : w91.frozen? ⟨go3, (1 : Int).toNat * 16 + 2, none⟩ = false := hfr3 2; have hf3_3 : w91.frozen? ⟨go3, (1 : Int).toNat * 16 + 3, none⟩ = false := hfr3 3; have hf3_4 : w91.frozen? ⟨go3, (1 : Int).toNat * 16 + 4, none⟩ = false := hfr3 4; have hf3_5 : w91.frozen? ⟨go3, (1 : Int).toNat * 16 + 5, none⟩ = false := hfr3 5; have hf3_6 : w91.frozen? ⟨go3, (1 : Int).toNat * 16 + 6, none⟩ = false := hfr3 6; have hf3_7 : w91.frozen? ⟨go3, (1 : Int).toNat * 16 + 7, none⟩ = false := hfr3 7; have hf3_8 : w91.frozen? ⟨go3, (1 : Int).toNat * 16 + 8, none⟩ = false := hfr3 8; have hf3_9 : w91.frozen? ⟨go3, (1 : Int).toNat * 16 + 9, none⟩ = false := hfr3 9; have hf3_10 : w91.frozen? ⟨go3, (1 : Int).toNat * 16 + 10, none⟩ = false := hfr3 10; have hf3_11 : w91.frozen? ⟨go3, (1 : Int).toNat * 16 + 11, none⟩ = false := hfr3 11; have hf3_12 : w91.frozen? ⟨go3, (1 : Int).toNat * 16 + 12, none⟩ = false := hfr3 12; have hf3_13 : w91.frozen? ⟨go3, (1 : Int).toNat * 16 + 13, none⟩ = false := hfr3 13; have hf3_14 : w91.frozen? ⟨go3, (1 : Int).toNat * 16 + 14, none⟩ = false := hfr3 14; have hf3_15 : w91.frozen? ⟨go3, (1 : Int).toNat * 16 + 15, none⟩ = false := hfr3 15; clear hcl3 hcc3 hfr3 hM3; (try rw [show ((1 : Int)).toNat = 1 from rfl] at hx3_0); (try simp only [Nat.reduceMul, Nat.zero_mul, Nat.zero_add, Nat.reduceAdd] at hx3_0); (try rw [show ((1 : Int)).toNat = 1 from rfl] at hf3_0); (try simp only [Nat.reduceMul, Nat.zero_mul, Nat.zero_add, Nat.reduceAdd] at hf3_0); (try rw [show ((1 : Int)).toNat = 1 from rfl] at hx3_1); (try simp only [Nat.reduceMul, Nat.zero_mul, Nat.zero_add, Nat.reduceAdd] at hx3_1); (try rw [show ((1 : Int)).toNat = 1 from rfl] at hf3_1); (try simp only [Nat.reduceMul, Nat.zero_mul, Nat.zero_add, Nat.reduceAdd] at hf3_1); (try rw [show ((1 : Int)).toNat = 1 from rfl] at hx3_2); (try simp only [Nat.reduceMul, Nat.zero_mul, Nat.zero_add, Nat.reduceAdd] at hx3_2); (try rw [show ((1 : Int)).toNat = 1 from rfl] at hf3_2); (try simp only [Nat.reduceMul, Nat.zero_mul, Nat.zero_add, Nat.reduceAdd] at hf3_2); (try rw [show ((1 : Int)).toNat = 1 from rfl] at hx3_3); (try simp only [Nat.reduceMul, Nat.zero_mul, Nat.zero_add, Nat.reduceAdd] at hx3_3); (try rw [show ((1 : Int)).toNat = 1 from rfl] at hf3_3); (try simp only [Nat.reduceMul, Nat.zero_mul, Nat.zero_add, Nat.reduceAdd] at hf3_3); (try rw [show ((1 : Int)).toNat = 1 from rfl] at hx3_4); (try simp only [Nat.reduceMul, Nat.zero_mul, Nat.zero_add, Nat.reduceAdd] at hx3_4); (try rw [show ((1 : Int)).toNat = 1 from rfl] at hf3_4); (try simp only [Nat.reduceMul, Nat.zero_mul, Nat.zero_add, Nat.reduceAdd] at hf3_4); (try rw [show ((1 : Int)).toNat = 1 from rfl] at hx3_5); (try simp only [Nat.reduceMul, Nat.zero_mul, Nat.zero_add, Nat.reduceAdd] at hx3_5); (try rw [show ((1 : Int)).toNat = 1 from rfl] at hf3_5); (try simp only [Nat.reduceMul, Nat.zero_mul, Nat.zero_add, Nat.reduceAdd] at hf3_5); (try rw [show ((1 : Int)).toNat = 1 from rfl] at hx3_6); (try simp only [Nat.reduceMul, Nat.zero_mul, Nat.zero_add, Nat.reduceAdd] at hx3_6); (try rw [show ((1 : Int)).toNat = 1 from rfl] at hf3_6); (try simp only [Nat.reduceMul, Nat.zero_mul, Nat.zero_add, Nat.reduceAdd] at hf3_6); (try rw [show ((1 : Int)).toNat = 1 from rfl] at hx3_7); (try simp only [Nat.reduceMul, Nat.zero_mul, Nat.zero_add, Nat.reduceAdd] at hx3_7); (try rw [show ((1 : Int)).toNat = 1 from rfl] at hf3_7); (try simp only [Nat.reduceMul, Nat.zero_mul, Nat.zero_add, Nat.reduceAdd] at hf3_7); (try rw [show ((1 : Int)).toNat = 1 from rfl] at hx3_8); (try simp only [Nat.reduceMul, Nat.zero_mul, Nat.zero_add, Nat.reduceAdd] at hx3_8); (try rw [show ((1 : Int)).toNat = 1 from rfl] at hf3_8); (try simp only [Nat.reduceMul, Nat.zero_mul, Nat.zero_add, Nat.reduceAdd] at hf3_8); (try rw [show ((1 : Int)).toNat = 1 from rfl] at hx3_9); (try simp only [Nat.reduceMul, Nat.zero_mul, Nat.zero_add, Nat.reduceAdd] at hx3_9); (try rw [show ((1 : Int)).toNat = 1 from rfl] at hf3_9); (try simp only [Nat.reduceMul, Nat.zero_mul, Nat.zero_add, Nat.reduceAdd] at hf3_9); (try rw [show ((1 : Int)).toNat = 1 from rfl] at hx3_10); (try simp only [Nat.reduceMul, Nat.zero_mul, Nat.zero_add, Nat.reduceAdd] at hx3_10); (try rw [show ((1 : Int)).toNat = 1 from rfl] at hf3_10); (try simp only [Nat.reduceMul, Nat.zero_mul, Nat.zero_add, Nat.reduceAdd] at hf3_10); (try rw [show ((1 : Int)).toNat = 1 from rfl] at hx3_11); (try simp only [Nat.reduceMul, Nat.zero_mul, Nat.zero_add, Nat.reduceAdd] at hx3_11); (try rw [show ((1 : Int)).toNat = 1 from rfl] at hf3_11); (try simp only [Nat.reduceMul, Nat.zero_mul, Nat.zero_add, Nat.reduceAdd] at hf3_11); (try rw [show ((1 : Int)).toNat = 1 from rfl] at hx3_12); (try simp only [Nat.reduceMul, Nat.zero_mul, Nat.zero_add, Nat.reduceAdd] at hx3_12); (try rw [show ((1 : Int)).toNat = 1 from rfl] at hf3_12); (try simp only [Nat.reduceMul, Nat.zero_mul, Nat.zero_add, Nat.reduceAdd] at hf3_12); (try rw [show ((1 : Int)).toNat = 1 from rfl] at hx3_13); (try simp only [Nat.reduceMul, Nat.zero_mul, Nat.zero_add, Nat.reduceAdd] at hx3_13); (try rw [show ((1 : Int)).toNat = 1 from rfl] at hf3_13); (try simp only [Nat.reduceMul, Nat.zero_mul, Nat.zero_add, Nat.reduceAdd] at hf3_13); (try rw [show ((1 : Int)).toNat = 1 from rfl] at hx3_14); (try simp only [Nat.reduceMul, Nat.zero_mul, Nat.zero_add, Nat.reduceAdd] at hx3_14); (try rw [show ((1 : Int)).toNat = 1 from rfl] at hf3_14); (try simp only [Nat.reduceMul, Nat.zero_mul, Nat.zero_add, Nat.reduceAdd] at hf3_14); (try rw [show ((1 : Int)).toNat = 1 from rfl] at hx3_15); (try simp only [Nat.reduceMul, Nat.zero_mul, Nat.zero_add, Nat.reduceAdd] at hx3_15); (try rw [show ((1 : Int)).toNat = 1 from rfl] at hf3_15); (try simp only [Nat.reduceMul, Nat.zero_mul, Nat.zero_add, Nat.reduceAdd] at hf3_15); replace p3 := eq_true p3; replace q3 := eq_true q3; have n_ := Aside0.mk (Kd.N_mono (ok' := (fun k_ => some k_ ≠ (v202 : Value).ownBlock ∧ k_ ≠ gb193 ∧ k_ ≠ gb200)) HO199.out (fun k_ hk => ⟨hk.2, ⟨hk.1.1, hk.1.2⟩⟩)); clear HO199; have HO199 := n_; clear n_; have HX93 := Aside0.mk (show Kd.N k44 44 w91 w.heap.size (fun k_ => some k_ ≠ (v202 : Value).ownBlock ∧ k_ ≠ gb193 ∧ k_ ≠ gb200) (.slice (some ⟨go3, 0, none⟩) y197.length co86) y197 from (by (with_reducible repeat (first | apply Kd.N_alloc | apply Kd.N_drewN | apply Kd.N_drew)); exact HO199.out)); obtain ⟨ce93, hcl93, hM93, hcc93, hfr93⟩ := Kd.N_elem HX93.out z44 (1 : Int) (by omega) (by have h_ : (1 : Int) < ((y197.length : Int) : Int) := odA; first | exact h_ | (have e_ := (Kd.N_reads' HO199.out).1; omega) | simpa using h_); obtain ⟨ua93_1, uc93_1, ua93_4, uc93_4, ua93_8, uc93_8, ua93_9, uc93_9, ua93_13, uc93_13, ua93_14, uc93_14, ua93_15, uc93_15, rfl, ul93_1, ge93_1, ul93_4, ge93_4, ul93_8, ge93_8, ul93_9, ge93_9, ul93_13, ge93_13, ul93_14, ge93_14, ul93_15, ge93_15⟩ := k44_openF hM93; have HP93 := Kd.N_seg HX93.out (1 : Int) (by omega) (by have h_ : (1 : Int) < ((y197.length : Int) : Int) := odA; first | exact h_ | (have e_ := (Kd.N_reads' HO199.out).1; omega) | simpa using h_) (seg := [.int .i64 (-1)]) (j := 6) hcl93 hcc93 (show 7 ≤ 16 from by decide) (x' := (⟨(rd_T44 y197 1).f0, (rd_T44 y197 1).f1, (rd_T44 y197 1).f2, (rd_T44 y197 1).f3, (rd_T44 y197 1).f4, (rd_T44 y197 1).f5, (-1), (rd_T44 y197 1).f7, (rd_T44 y197 1).f8, (rd_T44 y197 1).f9, (rd_T44 y197 1).f10, (rd_T44 y197 1).f11, (rd_T44 y197 1).f12, (rd_T44 y197 1).f13, (rd_T44 y197 1).f14, (rd_T44 y197 1).f15⟩ : S44)) (k44_mkF _ _ (⟨(rd_T44 y197 1).f0, (rd_T44 y197 1).f1, (rd_T44 y197 1).f2, (rd_T44 y197 1).f3, (rd_T44 y197 1).f4, (rd_T44 y197 1).f5, (-1), (rd_T44 y197 1).f7, (rd_T44 y197 1).f8, (rd_T44 y197 1).f9, (rd_T44 y197 1).f10, (rd_T44 y197 1).f11, (rd_T44 y197 1).f12, (rd_T44 y197 1).f13, (rd_T44 y197 1).f14, (rd_T44 y197 1).f15⟩ : S44) ul93_1 ge93_1 ul93_4 ge93_4 ul93_8 ge93_8 ul93_9 ge93_9 ul93_13 ge93_13 ul93_14 ge93_14 ul93_15 ge93_15) (fun _ hk => hk); have hx93_6 := hcc93 6 _ rfl; (try simp only [show (k44).sz = 16 from rfl, Nat.mul_one, Nat.add_zero] at hx93_6); (try rw [show ((1 : Int)).toNat = 1 from rfl] at hx93_6); (try simp only [Nat.reduceMul, Nat.zero_mul, Nat.zero_add, Nat.reduceAdd] at hx93_6); have hf93_6 := hfr93 6; (try simp only [show (k44).sz = 16 from rfl, Nat.mul_one, Nat.add_zero] at hf93_6); (try rw [show ((1 : Int)).toNat = 1 from rfl] at hf93_6); (try simp only [Nat.reduceMul, Nat.zero_mul, Nat.zero_add, Nat.reduceAdd] at hf93_6); clear hcl93 hcc93 hfr93 hM93) | ((with_reducible refine gate_store (t := 3) (p := 25) rfl ?_); refine store_event (t := 3) (p := 25) (v := ?vo_w94) (w1 := (w91.setCell ⟨go3, 22, none⟩ (.int .i64 (-1)))) ?hg ?ho ?hn ?hr ?_; (case ho => rfl); (case hg => rfl); (case hn => rfl); (case hr => first | (go_simp; done) | (go_simp; rfl)); intro w94 hw; have hg : w91.grownBy w94 (some go3) := (by rw [hw]; exact HP93.2); have hp_ : Kd.N k44 44 w94 w.heap.size (fun k_ => some k_ ≠ (v202 : Value).ownBlock ∧ k_ ≠ gb193 ∧ k_ ≠ gb200) (.slice (some ⟨go3, 0, none⟩) y197.length co86) y206 := (by rw [hw, Ny206.out]; exact HP93.1); clear HP93; have n0_ := Aside0.mk (blk_grown (g := gb193) (o := .cells #[.int .i64 2, .int .i64 0, .int .i64 10, .int .i64 5, .int .i64 3, .int .i64 20] 27 (0, 0)) (blk_move BK193.out) hg (Kd.N_ne HO199.out BK193.out (by decide))); have n1_ := Aside0.mk (hp_); have n2_ := Aside0.mk (blk_grown (g := gb200) (o := .cells #[.slice none 0 0, .slice (some ⟨go3, 0, none⟩) y197.length co86] 25 (0, 0)) (blk_move BK200.out) hg (Kd.N_ne HO199.out BK200.out (by decide))); have n3_ := Aside0.mk (Kd.R_over' (v := (.slice (some ⟨go3, 0, none⟩) y197.length co86)) (by (with_reducible repeat (first | apply Kd.R_alloc | apply Kd.R_drewN | apply Kd.R_drew)); exact HO203.out) (Kd.N_typed HO199.out) (by decide) hg); have n4_ := Aside0.mk ((by rw [hw]; exact below_set (HB.out) GB3.out : Below w.heap.size w w94)); clear BK193; clear HO199; clear BK200; clear HO203; clear HB; have BK193 := n0_; have HO199 := n1_; have BK200 := n2_; have HO203 := n3_; have HB := n4_; clear n0_ n1_ n2_ n3_ n4_; clear hg hw hp_; have hz95 := blk2 BK200.out; have hz96 := blk6 BK193.out) | ((with_reducible refine gate_callee (f := 9) rfl ?_); refine goesL_ (some 29) rfl rfl Try.func9 (by kernel_rfl) rfl #[.agg #[.slice none 0 0, .slice (some ⟨go3, 0, none⟩) y206.length co86], .agg #[.int .i64 2, .int .i64 0, .int .i64 10, .int .i64 5, .int .i64 3, .int .i64 20]] rfl (by (try simp only [List.map_toArray, List.map_cons, List.map_nil]); first | done | (rw [show y206.length = y197.length from (Kd.N_reads' HO199.out).1.symm] <;> rfl) | rfl | (simp only [List.length_drop, List.length_take]; rfl)) ?_; (refine (bounds_Analyze.calls k _ _ ([] : List (S95)) _ _ y206 2 0 10 5 3 20 t207 t210 t211 _ ?side1 ?side2 ?side3 ?side4 A4.out).mono ?_); (case side1 => exact Kd.C_nil _ _); (case side2 => exact Nat.le_refl _); (case side3 => repeat (first | exact (Kd.N_reads' HO199.out).2.2 | (with_reducible refine Kd.C_alloc ?_ _) | (with_reducible refine Kd.C_drewN ?_ _) | (with_reducible refine Kd.C_drew ?_))); (case side4 => rw [show y206.length = y197.length from (Kd.N_reads' HO199.out).1.symm]; exact (Kd.N_reads' HO199.out).2.1); rintro e w97 ⟨v208, rfl, ho0, hb⟩; refine ⟨_, rfl, ?_⟩; have HO209 := Aside0.mk (Kd.R_lower (Kd.R_new' ho0 (Kd.R_lt (by (with_reducible repeat (first | apply Kd.R_alloc | apply Kd.R_drewN | apply Kd.R_drew)); exact HO203.out))) below_sizeA); replace HO199 := Aside0.mk (Kd.N_elder' (by (with_reducible repeat (first | apply Kd.N_alloc | apply Kd.N_drewN | apply Kd.N_drew)); exact HO199.out) (Kd.R_base ho0) hb); replace HO203 := Aside0.mk (Kd.R_elder' (by (with_reducible repeat (first | apply Kd.R_alloc | apply Kd.R_drewN | apply Kd.R_drew)); exact HO203.out) (Kd.R_base ho0) hb); replace BK193 := Aside0.mk (blk_keepA BK193.out hb); replace BK200 := Aside0.mk (blk_keepA BK200.out hb); replace HB := Aside0.mk (below_stepA hb); (try clear hb); (try clear ho0)))
   go_ret
   exact ⟨by first | rfl | (simp [errW_none, errW_some] <;> rfl) | (simp [*, errW_none, errW_some] <;> rfl), belowA⟩
 ·
  rw [if_neg c5] at H
  have c5b0 : (t205 == 0) = false := beq_eq_false_iff_ne.mpr c5
  have c5b1 : (t205 != 0) = true := bne_iff_ne.mpr c5
  obtain rfl := Option.some.inj H
  go_enter Try.func7, Try.ntmps7
  go_wp2_with (first | ((with_reducible refine gate_dst (N := 1) rfl ?_); (try (refine gate_guard (by rfl) ?_; dsimp only)); refine box_event ?hg (N := 1) ?hd (cs := #[.int .i64 0, .int .i64 0, .int .i64 0, .int .i64 0, .int .i64 0, .int .i64 0]) (t := 27) ?hr ?_; (case hd => rfl); (case hg => rfl); (case hr => first | (go_simp; done) | (go_simp; rfl)); intro gb193 hg w98 hbox hb; have BK193 := Aside0.mk (hbox); have GW193 := Aside0.mk ((by rw [hg]; exact below_sizeA : w.heap.size ≤ gb193)); have GE193 := GW193; replace HB := Aside0.mk (below_stepA hb); clear hb hbox hg; have hz99 := blk6 BK193.out) | ((with_reducible refine gate_dst (N := 11) rfl ?_); (try (refine gate_guard (by rfl) ?_; dsimp only)); refine Kd.R_lit (Kd.int .i64) _ 3 ?hg (N := 11) ?hd (xs := ([0] : List Int)) (inner := [.int .i64 0]) (ok := fun _ => True) (okp := fun _ => True) ?hr ?hp (fun _ hk => hk) trivial (Below.refl _ _) (Nat.le_refl _) (by simp) ?_; (case hd => rfl); (case hg => rfl); (case hr => first | (go_simp; done) | (go_simp; rfl)); (case hp => exact (Reps.one (show Kd.M (Kd.int .i64) _ _ _ 0 [.int .i64 0] from rfl) (Reps.none _ _))); intro v195 w100 ho101 hb hg_ hnew_; clear hg_ hnew_; (first | rw [← Ny194.out] at ho101 | (simp only [Int.reduceToNat] at ho101; rw [← Ny194.out] at ho101)); have HO196 := Aside0.mk (Kd.R_lower ho101 below_sizeA); replace BK193 := Aside0.mk (blk_below (g := gb193) (o := .cells #[.int .i64 2, .int .i64 0, .int .i64 10, .int .i64 5, .int .i64 3, .int .i64 20] 27 (0, 0)) (blk_move BK193.out) hb); replace HB := Aside0.mk (below_stepA hb); clear hb ho101; obtain ⟨Ao102, co102, eo102⟩ := Kd.R_slice HO196.out; subst eo102) | ((with_reducible refine gate_dst (N := 13) rfl ?_); (try (refine gate_guard (by rfl) ?_; dsimp only)); refine Kd.N_lit k44 _ 44 ?hg (N' := 13) ?hd (xs := ([(⟨0, ([] : List Int), (⟨#[]⟩ : ByteArray), 0, ([] : List (S93)), 0, 0, 0, ([] : List Int), ([] : List Int), 0, 0, 0, ([] : List (S97)), ([] : List (S99)), ([] : List (S50))⟩ : S44), (⟨4, y194, (⟨#[]⟩ : ByteArray), 0, ([] : List (S93)), 0, 60, 0, ([] : List Int), ([] : List Int), 0, 0, 0, ([] : List (S97)), ([] : List (S99)), ([] : List (S50))⟩ : S44)] : List (S44))) (inner := [.int .i64 0, .slice none 0 0, .string (⟨#[]⟩ : ByteArray), .int .i64 0, .slice none 0 0, .int .i64 0, .int .i64 0, .int .i64 0, .slice none 0 0, .slice none 0 0, .int .i64 0, .int .i64 0, .int .i64 0, .slice none 0 0, .slice none 0 0, .slice none 0 0, .int .i64 4, .slice Ao102 y194.length co102, .string (⟨#[]⟩ : ByteArray), .int .i64 0, .slice none 0 0, .int .i64 0, .int .i64 60, .int .i64 0, .slice none 0 0, .slice none 0 0, .int .i64 0, .int .i64 0, .int .i64 0, .slice none 0 0, .slice none 0 0, .slice none 0 0]) (ok := (fun k_ => k_ ≠ gb193)) (okp := (fun k_ => k_ ≠ gb193)) ?hr ?hp (fun _ hk => hk) ((show ∀ k_, w100.heap.size ≤ k_ → (fun k_ => k_ ≠ gb193) k_ from fun k_ hk => Kd.freshB (g := gb193) (o := .cells #[.int .i64 2, .int .i64 0, .int .i64 10, .int .i64 5, .int .i64 3, .int .i64 20] 27 (0, 0)) (blk_move BK193.out) k_ hk) _ (Nat.le_refl _)) (Below.refl _ _) (Nat.le_refl _) (by simp) ?_; (case hd => rfl); (case hg => rfl); (case hr => first | (go_simp; done) | (go_simp; rfl)); (case hp => exact (Reps.front (show Kd.FK k44 _ _ (⟨0, ([] : List Int), (⟨#[]⟩ : ByteArray), 0, ([] : List (S93)), 0, 0, 0, ([] : List Int), ([] : List Int), 0, 0, 0, ([] : List (S97)), ([] : List (S99)), ([] : List (S50))⟩ : S44) [.int .i64 0, .slice none 0 0, .string (⟨#[]⟩ : ByteArray), .int .i64 0, .slice none 0 0, .int .i64 0, .int .i64 0, .int .i64 0, .slice none 0 0, .slice none 0 0, .int .i64 0, .int .i64 0, .int .i64 0, .slice none 0 0, .slice none 0 0, .slice none 0 0] from (k44_mkF _ _ (⟨0, ([] : List Int), (⟨#[]⟩ : ByteArray), 0, ([] : List (S93)), 0, 0, 0, ([] : List Int), ([] : List Int), 0, 0, 0, ([] : List (S97)), ([] : List (S99)), ([] : List (S50))⟩ : S44) (Nat.le_refl _) (Kd.F_nil _ _ _) (Nat.le_refl _) (Kd.F_nil _ _ _) (Nat.le_refl _) (Kd.F_nil _ _ _) (Nat.le_refl _) (Kd.F_nil _ _ _) (Nat.le_refl _) (Kd.F_nil _ _ _) (Nat.le_refl _) (Kd.F_nil _ _ _) (Nat.le_refl _) (Kd.F_nil _ _ _))) rfl (Reps.front (show Kd.FK k44 _ _ (⟨4, y194, (⟨#[]⟩ : ByteArray), 0, ([] : List (S93)), 0, 60, 0, ([] : List Int), ([] : List Int), 0, 0, 0, ([] : List (S97)), ([] : List (S99)), ([] : List (S50))⟩ : S44) [.int .i64 4, .slice Ao102 y194.length co102, .string (⟨#[]⟩ : ByteArray), .int .i64 0, .slice none 0 0, .int .i64 0, .int .i64 60, .int .i64 0, .slice none 0 0, .slice none 0 0, .int .i64 0, .int .i64 0, .int .i64 0, .slice none 0 0, .slice none 0 0, .slice none 0 0] from (k44_mkF _ _ (⟨4, y194, (⟨#[]⟩ : ByteArray), 0, ([] : List (S93)), 0, 60, 0, ([] : List Int), ([] : List Int), 0, 0, 0, ([] : List (S97)), ([] : List (S99)), ([] : List (S50))⟩ : S44) (Kd.R_reads' (Kd.R_mono (ok' := (fun k_ => k_ ≠ gb193)) (Kd.R_types (HO196.out) BK193.out (by decide)) (fun k_ hk => hk.2))).2.1 (Kd.R_F (Kd.R_mono (ok' := (fun k_ => k_ ≠ gb193)) (Kd.R_types (HO196.out) BK193.out (by decide)) (fun k_ hk => hk.2))) (Nat.le_refl _) (Kd.F_nil _ _ _) (Nat.le_refl _) (Kd.F_nil _ _ _) (Nat.le_refl _) (Kd.F_nil _ _ _) (Nat.le_refl _) (Kd.F_nil _ _ _) (Nat.le_refl _) (Kd.F_nil _ _ _) (Nat.le_refl _) (Kd.F_nil _ _ _))) rfl (Reps.none _ _) rfl) rfl)); intro v198 w103 ho104 hb hg_ hnew_; clear hg_ hnew_; (first | rw [← Ny197.out] at ho104 | (simp only [Int.reduceToNat] at ho104; rw [← Ny197.out] at ho104)); have n0_ := Aside0.mk (Kd.N_lower ho104 below_sizeA); have n1_ := Aside0.mk (blk_keepA BK193.out hb); have n2_ := Aside0.mk (below_stepA hb); clear BK193; clear HB; clear HO196; have HO199 := n0_; have BK193 := n1_; have HB := n2_; clear n0_ n1_ n2_; clear hb ho104; obtain ⟨Ao105, co105, eo105⟩ := Kd.N_slice HO199.out; subst eo105) | ((with_reducible refine gate_dst (N := 2) rfl ?_); (try (refine gate_guard (by rfl) ?_; dsimp only)); refine box_event ?hg (N := 2) ?hd (cs := #[.slice none 0 0, .slice none 0 0]) (t := 25) ?hr ?_; (case hd => rfl); (case hg => rfl); (case hr => first | (go_simp; done) | (go_simp; rfl)); intro gb200 hg w106 hbox hb; have BK200 := Aside0.mk (hbox); have GW200 := Aside0.mk ((by rw [hg]; exact below_sizeA : w.heap.size ≤ gb200)); have GE200 := GW200; have NB193_200 := Aside0.mk ((by rw [hg]; exact Nat.ne_of_lt (blk_ltKA BK193.out) : gb193 ≠ gb200)); have NB200_193 := Aside0.mk NB193_200.out.symm; replace HO199 := Aside0.mk (Kd.N_below (Kd.N_elderB (by (with_reducible repeat (first | apply Kd.N_alloc | apply Kd.N_drewN | apply Kd.N_drew)); exact HO199.out) gb200 (Nat.le_of_eq hg.symm)) hb); replace BK193 := Aside0.mk (blk_keepA BK193.out hb); replace HB := Aside0.mk (below_stepA hb); clear hb hbox hg; have hnb107 := NB200_193.out; have hnc107 := NB193_200.out; have hz108 := blk2 BK200.out; have hz109 := blk6 BK193.out) | ((with_reducible refine gate_callee (f := 9) rfl ?_); refine goesL_ (some 18) rfl rfl Try.func9 (by kernel_rfl) rfl #[.agg #[.slice none 0 0, .slice Ao105 y197.length co105], .agg #[.int .i64 2, .int .i64 0, .int .i64 10, .int .i64 5, .int .i64 3, .int .i64 20]] rfl mapA ?_; (refine (bounds_Analyze.calls k _ _ ([] : List (S95)) _ _ y197 2 0 10 5 3 20 t201 t204 t205 _ ?side1 ?side2 ?side3 ?side4 A1.out).mono ?_); (case side1 => exact Kd.C_nil _ _); (case side2 => exact Nat.le_refl _); (case side3 => refine (Kd.N_reads' (e := 44) (base := w.heap.size) (ok := fun k_ => (k_ ≠ gb193 ∧ k_ ≠ gb200)) (n := y197.length) (c := co105) ?_).2.2; exact (by (with_reducible repeat (first | apply Kd.N_alloc | apply Kd.N_drewN | apply Kd.N_drew)); exact (Kd.N_mono (Kd.N_far (p := ⟨gb200, 1, none⟩) (Kd.N_far (p := ⟨gb200, 0, none⟩) (Kd.N_mono HO199.out (fun k_ hk => (⟨hk, hk.2⟩ : _ ∧ k_ ≠ gb200))) (fun _ hk => hk.2) (.slice none 0 0)) (fun _ hk => hk.2) (.slice Ao105 y197.length co105)) (fun _ h_ => h_.1)))); (case side4 => exact (Kd.N_reads' HO199.out).2.1); rintro e w110 ⟨v202, rfl, ho0, hb⟩; refine ⟨_, rfl, ?_⟩; have HO203 := Aside0.mk (Kd.R_lower ho0 below_sizeA); replace HO199 := Aside0.mk (Kd.N_elder' (by (with_reducible repeat (first | apply Kd.N_alloc | apply Kd.N_drewN | apply Kd.N_drew)); exact (Kd.N_mono (Kd.N_far (p := ⟨gb200, 1, none⟩) (Kd.N_far (p := ⟨gb200, 0, none⟩) (Kd.N_mono HO199.out (fun k_ hk => (⟨hk, hk.2⟩ : _ ∧ k_ ≠ gb200))) (fun _ hk => hk.2) (.slice none 0 0)) (fun _ hk => hk.2) (.slice Ao105 y197.length co105)) (fun _ h_ => h_.1))) (Kd.R_base ho0) hb); replace BK193 := Aside0.mk (blk_keepA BK193.out hb); replace BK200 := Aside0.mk (blk_below (g := gb200) (o := .cells #[.slice none 0 0, .slice Ao105 y197.length co105] 25 (0, 0)) (blk_move BK200.out) hb); replace HB := Aside0.mk (below_stepA hb); (try clear hb); (try clear ho0); have hz111 := blk2 BK200.out; have p3 : 0 ≤ (1 : Int) := (by omega); have q3 : (1 : Int) < ((y197.length : Int) : Int) := odA; have qi3 : (1 < y197.length) = True := eq_true (by omega); obtain ⟨go3, co3, eo3, gb3, gl3, cl3, HG3⟩ := Kd.N_form HO199.out (by omega); (first | cases eo3 | (injection eo3 with ea_ en_ ec_; (first | subst ea_ | (injection ea_ with ea_; subst ea_)); subst ec_; clear en_)); have GB3 := Aside0.mk gb3; have GG3 := Aside0.mk HG3; clear gb3 gl3 HG3; obtain ⟨ce3, hcl3, hM3, hcc3, hfr3⟩ := Kd.N_elem HO199.out z44 (1 : Int) p3 q3; obtain ⟨ua3_1, uc3_1, ua3_4, uc3_4, ua3_8, uc3_8, ua3_9, uc3_9, ua3_13, uc3_13, ua3_14, uc3_14, ua3_15, uc3_15, rfl, ul3_1, ge3_1, ul3_4, ge3_4, ul3_8, ge3_8, ul3_9, ge3_9, ul3_13, ge3_13, ul3_14, ge3_14, ul3_15, ge3_15⟩ := k44_openF hM3; have hx3_0 : w110.cell? ⟨go3, (1 : Int).toNat * 16, none⟩ = some (.int .i64 ((rd_T44 y197 1).f0)) := hcc3 0 _ rfl; have hx3_1 : w110.cell? ⟨go3, (1 : Int).toNat * 16 + 1, none⟩ = some (.slice ua3_1 ((rd_T44 y197 1).f1).length uc3_1) := hcc3 1 _ rfl; have hx3_2 : w110.cell? ⟨go3, (1 : Int).toNat * 16 + 2, none⟩ = some (.string ((rd_T44 y197 1).f2)) := hcc3 2 _ rfl; have hx3_3 : w110.cell? ⟨go3, (1 : Int).toNat * 16 + 3, none⟩ = some (.int .i64 ((rd_T44 y197 1).f3)) := hcc3 3 _ rfl; have hx3_4 : w110.cell? ⟨go3, (1 : Int).toNat * 16 + 4, none⟩ = some (.slice ua3_4 ((rd_T44 y197 1).f4).length uc3_4) := hcc3 4 _ rfl; have hx3_5 : w110.cell? ⟨go3, (1 : Int).toNat * 16 + 5, none⟩ = some (.int .i64 ((rd_T44 y197 1).f5)) := hcc3 5 _ rfl; have hx3_6 : w110.cell? ⟨go3, (1 : Int).toNat * 16 + 6, none⟩ = some (.int .i64 ((rd_T44 y197 1).f6)) := hcc3 6 _ rfl; have hx3_7 : w110.cell? ⟨go3, (1 : Int).toNat * 16 + 7, none⟩ = some (.int .i64 ((rd_T44 y197 1).f7)) := hcc3 7 _ rfl; have hx3_8 : w110.cell? ⟨go3, (1 : Int).toNat * 16 + 8, none⟩ = some (.slice ua3_8 ((rd_T44 y197 1).f8).length uc3_8) := hcc3 8 _ rfl; have hx3_9 : w110.cell? ⟨go3, (1 : Int).toNat * 16 + 9, none⟩ = some (.slice ua3_9 ((rd_T44 y197 1).f9).length uc3_9) := hcc3 9 _ rfl; have hx3_10 : w110.cell? ⟨go3, (1 : Int).toNat * 16 + 10, none⟩ = some (.int .i64 ((rd_T44 y197 1).f10)) := hcc3 10 _ rfl; have hx3_11 : w110.cell? ⟨go3, (1 : Int).toNat * 16 + 11, none⟩ = some (.int .i64 ((rd_T44 y197 1).f11)) := hcc3 11 _ rfl; have hx3_12 : w110.cell? ⟨go3, (1 : Int).toNat * 16 + 12, none⟩ = some (.int .i64 ((rd_T44 y197 1).f12)) := hcc3 12 _ rfl; have hx3_13 : w110.cell? ⟨go3, (1 : Int).toNat * 16 + 13, none⟩ = some (.slice ua3_13 ((rd_T44 y197 1).f13).length uc3_13) := hcc3 13 _ rfl; have hx3_14 : w110.cell? ⟨go3, (1 : Int).toNat * 16 + 14, none⟩ = some (.slice ua3_14 ((rd_T44 y197 1).f14).length uc3_14) := hcc3 14 _ rfl; have hx3_15 : w110.cell? ⟨go3, (1 : Int).toNat * 16 + 15, none⟩ = some (.slice ua3_15 ((rd_T44 y197 1).f15).length uc3_15) := hcc3 15 _ rfl; have hf3_0 : w110.frozen? ⟨go3, (1 : Int).toNat * 16, none⟩ = false := hfr3 0; have hf3_1 : w110.frozen? ⟨go3, (1 : Int).toNat * 16 + 1, none⟩ = false := hfr3 1; have hf3_2 : w110.frozen? ⟨go3, (1 : Int).toNat * 16 + 2, none⟩ = false := hfr3 2; have hf3_3 : w110.frozen? ⟨go3, (1 : Int).toNat * 16 + 3, none⟩ = false := hfr3 3; have hf3_4 : w110.frozen? ⟨go3, (1 : Int).toNat * 16 + 4, none⟩ = false := hfr3 4; have hf3_5 : w110.frozen? ⟨go3, (1 : Int).toNat * 16 + 5, none⟩ = false := hfr3 5; have hf3_6 : w110.frozen? ⟨go3, (1 : Int).toNat * 16 + 6, none⟩ = false := hfr3 6; have hf3_7 : w110.frozen? ⟨go3, (1 : Int).toNat * 16 + 7, none⟩ = false := hfr3 7; have hf3_8 : w110.frozen? ⟨go3, (1 : Int).toNat * 16 + 8, none⟩ = false := hfr3 8; have hf3_9 : w110.frozen? ⟨go3, (1 : Int).toNat * 16 + 9, none⟩ = false := hfr3 9; have hf3_10 : w110.frozen? ⟨go3, (1 : Int).toNat * 16 + 10, none⟩ = false := hfr3 10; have hf3_11 : w110.frozen? ⟨go3, (1 : Int).toNat * 16 + 11, none⟩ = false := hfr3 11; have hf3_12 : w110.frozen? ⟨go3, (1 : Int).toNat * 16 + 12, none⟩ = false := hfr3 12; have hf3_13 : w110.frozen? ⟨go3, (1 : Int).toNat * 16 + 13, none⟩ = false := hfr3 13; have hf3_14 : w110.frozen? ⟨go3, (1 : Int).toNat * 16 + 14, none⟩ = false := hfr3 14; have hf3_15 : w110.frozen? ⟨go3, (1 : Int).toNat * 16 + 15, none⟩ = false := hfr3 15; clear hcl3 hcc3 hfr3 hM3; (try rw [show ((1 : Int)).toNat = 1 from rfl] at hx3_0); (try simp only [Nat.reduceMul, Nat.zero_mul, Nat.zero_add, Nat.reduceAdd] at hx3_0); (try rw [show ((1 : Int)).toNat = 1 from rfl] at hf3_0); (try simp only [Nat.reduceMul, Nat.zero_mul, Nat.zero_add, Nat.reduceAdd] at hf3_0); (try rw [show ((1 : Int)).toNat = 1 from rfl] at hx3_1); (try simp only [Nat.reduceMul, Nat.zero_mul, Nat.zero_add, Nat.reduceAdd] at hx3_1); (try rw [show ((1 : Int)).toNat = 1 from rfl] at hf3_1); (try simp only [Nat.reduceMul, Nat.zero_mul, Nat.zero_add, Nat.reduceAdd] at hf3_1); (try rw [show ((1 : Int)).toNat = 1 from rfl] at hx3_2); (try simp only [Nat.reduceMul, Nat.zero_mul, Nat.zero_add, Nat.reduceAdd] at hx3_2); (try rw [show ((1 : Int)).toNat = 1 from rfl] at hf3_2); (try simp only [Nat.reduceMul, Nat.zero_mul, Nat.zero_add, Nat.reduceAdd] at hf3_2); (try rw [show ((1 : Int)).toNat = 1 from rfl] at hx3_3); (try simp only [Nat.reduceMul, Nat.zero_mul, Nat.zero_add, Nat.reduceAdd] at hx3_3); (try rw [show ((1 : Int)).toNat = 1 from rfl] at hf3_3); (try simp only [Nat.reduceMul, Nat.zero_mul, Nat.zero_add, Nat.reduceAdd] at hf3_3); (try rw [show ((1 : Int)).toNat = 1 from rfl] at hx3_4); (try simp only [Nat.reduceMul, Nat.zero_mul, Nat.zero_add, Nat.reduceAdd] at hx3_4); (try rw [show ((1 : Int)).toNat = 1 from rfl] at hf3_4); (try simp only [Nat.reduceMul, Nat.zero_mul, Nat.zero_add, Nat.reduceAdd] at hf3_4); (try rw [show ((1 : Int)).toNat = 1 from rfl] at hx3_5); (try simp only [Nat.reduceMul, Nat.zero_mul, Nat.zero_add, Nat.reduceAdd] at hx3_5); (try rw [show ((1 : Int)).toNat = 1 from rfl] at hf3_5); (try simp only [Nat.reduceMul, Nat.zero_mul, Nat.zero_add, Nat.reduceAdd] at hf3_5); (try rw [show ((1 : Int)).toNat = 1 from rfl] at hx3_6); (try simp only [Nat.reduceMul, Nat.zero_mul, Nat.zero_add, Nat.reduceAdd] at hx3_6); (try rw [show ((1 : Int)).toNat = 1 from rfl] at hf3_6); (try simp only [Nat.reduceMul, Nat.zero_mul, Nat.zero_add, Nat.reduceAdd] at hf3_6); (try rw [show ((1 : Int)).toNat = 1 from rfl] at hx3_7); (try simp only [Nat.reduceMul, Nat.zero_mul, Nat.zero_add, Nat.reduceAdd] at hx3_7); (try rw [show ((1 : Int)).toNat = 1 from rfl] at hf3_7); (try simp only [Nat.reduceMul, Nat.zero_mul, Nat.zero_add, Nat.reduceAdd] at hf3_7); (try rw [show ((1 : Int)).toNat = 1 from rfl] at hx3_8); (try simp only [Nat.reduceMul, Nat.zero_mul, Nat.zero_add, Nat.reduceAdd] at hx3_8); (try rw [show ((1 : Int)).toNat = 1 from rfl] at hf3_8); (try simp only [Nat.reduceMul, Nat.zero_mul, Nat.zero_add, Nat.reduceAdd] at hf3_8); (try rw [show ((1 : Int)).toNat = 1 from rfl] at hx3_9); (try simp only [Nat.reduceMul, Nat.zero_mul, Nat.zero_add, Nat.reduceAdd] at hx3_9); (try rw [show ((1 : Int)).toNat = 1 from rfl] at hf3_9); (try simp only [Nat.reduceMul, Nat.zero_mul, Nat.zero_add, Nat.reduceAdd] at hf3_9); (try rw [show ((1 : Int)).toNat = 1 from rfl] at hx3_10); (try simp only [Nat.reduceMul, Nat.zero_mul, Nat.zero_add, Nat.reduceAdd] at hx3_10); (try rw [show ((1 : Int)).toNat = 1 from rfl] at hf3_10); (try simp only [Nat.reduceMul, Nat.zero_mul, Nat.zero_add, Nat.reduceAdd] at hf3_10); (try rw [show ((1 : Int)).toNat = 1 from rfl] at hx3_11); (try simp only [Nat.reduceMul, Nat.zero_mul, Nat.zero_add, Nat.reduceAdd] at hx3_11); (try rw [show ((1 : Int)).toNat = 1 from rfl] at hf3_11); (try simp only [Nat.reduceMul, Nat.zero_mul, Nat.zero_add, Nat.reduceAdd] at hf3_11); (try rw [show ((1 : Int)).toNat = 1 from rfl] at hx3_12); (try simp only [Nat.reduceMul, Nat.zero_mul, Nat.zero_add, Nat.reduceAdd] at hx3_12); (try rw [show ((1 : Int)).toNat = 1 from rfl] at hf3_12); (try simp only [Nat.reduceMul, Nat.zero_mul, Nat.zero_add, Nat.reduceAdd] at hf3_12); (try rw [show ((1 : Int)).toNat = 1 from rfl] at hx3_13); (try simp only [Nat.reduceMul, Nat.zero_mul, Nat.zero_add, Nat.reduceAdd] at hx3_13); (try rw [show ((1 : Int)).toNat = 1 from rfl] at hf3_13); (try simp only [Nat.reduceMul, Nat.zero_mul, Nat.zero_add, Nat.reduceAdd] at hf3_13); (try rw [show ((1 : Int)).toNat = 1 from rfl] at hx3_14); (try simp only [Nat.reduceMul, Nat.zero_mul, Nat.zero_add, Nat.reduceAdd] at hx3_14); (try rw [show ((1 : Int)).toNat = 1 from rfl] at hf3_14); (try simp only [Nat.reduceMul, Nat.zero_mul, Nat.zero_add, Nat.reduceAdd] at hf3_14); (try rw [show ((1 : Int)).toNat = 1 from rfl] at hx3_15); (try simp only [Nat.reduceMul, Nat.zero_mul, Nat.zero_add, Nat.reduceAdd] at hx3_15); (try rw [show ((1 : Int)).toNat = 1 from rfl] at hf3_15); (try simp only [Nat.reduceMul, Nat.zero_mul, Nat.zero_add, Nat.reduceAdd] at hf3_15); replace p3 := eq_true p3; replace q3 := eq_true q3; have n_ := Aside0.mk (Kd.N_mono (ok' := (fun k_ => some k_ ≠ (v202 : Value).ownBlock ∧ k_ ≠ gb193 ∧ k_ ≠ gb200)) HO199.out (fun k_ hk => ⟨hk.2, ⟨hk.1.1, hk.1.2⟩⟩)); clear HO199; have HO199 := n_; clear n_; have HX112 := Aside0.mk (show Kd.N k44 44 w110 w.heap.size (fun k_ => some k_ ≠ (v202 : Value).ownBlock ∧ k_ ≠ gb193 ∧ k_ ≠ gb200) (.slice (some ⟨go3, 0, none⟩) y197.length co105) y197 from (by (with_reducible repeat (first | apply Kd.N_alloc | apply Kd.N_drewN | apply Kd.N_drew)); exact HO199.out)); obtain ⟨ce112, hcl112, hM112, hcc112, hfr112⟩ := Kd.N_elem HX112.out z44 (1 : Int) (by omega) (by have h_ : (1 : Int) < ((y197.length : Int) : Int) := odA; first | exact h_ | (have e_ := (Kd.N_reads' HO199.out).1; omega) | simpa using h_); obtain ⟨ua112_1, uc112_1, ua112_4, uc112_4, ua112_8, uc112_8, ua112_9, uc112_9, ua112_13, uc112_13, ua112_14, uc112_14, ua112_15, uc112_15, rfl, ul112_1, ge112_1, ul112_4, ge112_4, ul112_8, ge112_8, ul112_9, ge112_9, ul112_13, ge112_13, ul112_14, ge112_14, ul112_15, ge112_15⟩ := k44_openF hM112; have HP112 := Kd.N_seg HX112.out (1 : Int) (by omega) (by have h_ : (1 : Int) < ((y197.length : Int) : Int) := odA; first | exact h_ | (have e_ := (Kd.N_reads' HO199.out).1; omega) | simpa using h_) (seg := [.int .i64 (-1)]) (j := 6) hcl112 hcc112 (show 7 ≤ 16 from by decide) (x' := (⟨(rd_T44 y197 1).f0, (rd_T44 y197 1).f1, (rd_T44 y197 1).f2, (rd_T44 y197 1).f3, (rd_T44 y197 1).f4, (rd_T44 y197 1).f5, (-1), (rd_T44 y197 1).f7, (rd_T44 y197 1).f8, (rd_T44 y197 1).f9, (rd_T44 y197 1).f10, (rd_T44 y197 1).f11, (rd_T44 y197 1).f12, (rd_T44 y197 1).f13, (rd_T44 y197 1).f14, (rd_T44 y197 1).f15⟩ : S44)) (k44_mkF _ _ (⟨(rd_T44 y197 1).f0, (rd_T44 y197 1).f1, (rd_T44 y197 1).f2, (rd_T44 y197 1).f3, (rd_T44 y197 1).f4, (rd_T44 y197 1).f5, (-1), (rd_T44 y197 1).f7, (rd_T44 y197 1).f8, (rd_T44 y197 1).f9, (rd_T44 y197 1).f10, (rd_T44 y197 1).f11, (rd_T44 y197 1).f12, (rd_T44 y197 1).f13, (rd_T44 y197 1).f14, (rd_T44 y197 1).f15⟩ : S44) ul112_1 ge112_1 ul112_4 ge112_4 ul112_8 ge112_8 ul112_9 ge112_9 ul112_13 ge112_13 ul112_14 ge112_14 ul112_15 ge112_15) (fun _ hk => hk); have hx112_6 := hcc112 6 _ rfl; (try simp only [show (k44).sz = 16 from rfl, Nat.mul_one, Nat.add_zero] at hx112_6); (try rw [show ((1 : Int)).toNat = 1 from rfl] at hx112_6); (try simp only [Nat.reduceMul, Nat.zero_mul, Nat.zero_add, Nat.reduceAdd] at hx112_6); have hf112_6 := hfr112 6; (try simp only [show (k44).sz = 16 from rfl, Nat.mul_one, Nat.add_zero] at hf112_6); (try rw [show ((1 : Int)).toNat = 1 from rfl] at hf112_6); (try simp only [Nat.reduceMul, Nat.zero_mul, Nat.zero_add, Nat.reduceAdd] at hf112_6); clear hcl112 hcc112 hfr112 hM112) | ((with_reducible refine gate_store (t := 3) (p := 25) rfl ?_); refine store_event (t := 3) (p := 25) (v := ?vo_w113) (w1 := (w110.setCell ⟨go3, 22, none⟩ (.int .i64 (-1)))) ?hg ?ho ?hn ?hr ?_; (case ho => rfl); (case hg => rfl); (case hn => rfl); (case hr => first | (go_simp; done) | (go_simp; rfl)); intro w113 hw; have hg : w110.grownBy w113 (some go3) := (by rw [hw]; exact HP112.2); have hp_ : Kd.N k44 44 w113 w.heap.size (fun k_ => some k_ ≠ (v202 : Value).ownBlock ∧ k_ ≠ gb193 ∧ k_ ≠ gb200) (.slice (some ⟨go3, 0, none⟩) y197.length co105) y206 := (by rw [hw, Ny206.out]; exact HP112.1); clear HP112; have n0_ := Aside0.mk (blk_grown (g := gb193) (o := .cells #[.int .i64 2, .int .i64 0, .int .i64 10, .int .i64 5, .int .i64 3, .int .i64 20] 27 (0, 0)) (blk_move BK193.out) hg (Kd.N_ne HO199.out BK193.out (by decide))); have n1_ := Aside0.mk (hp_); have n2_ := Aside0.mk (blk_grown (g := gb200) (o := .cells #[.slice none 0 0, .slice (some ⟨go3, 0, none⟩) y197.length co105] 25 (0, 0)) (blk_move BK200.out) hg (Kd.N_ne HO199.out BK200.out (by decide))); have n3_ := Aside0.mk (Kd.R_over' (v := (.slice (some ⟨go3, 0, none⟩) y197.length co105)) (by (with_reducible repeat (first | apply Kd.R_alloc | apply Kd.R_drewN | apply Kd.R_drew)); exact HO203.out) (Kd.N_typed HO199.out) (by decide) hg); have n4_ := Aside0.mk ((by rw [hw]; exact below_set (HB.out) GB3.out : Below w.heap.size w w113)); clear BK193; clear HO199; clear BK200; clear HO203; clear HB; have BK193 := n0_; have HO199 := n1_; have BK200 := n2_; have HO203 := n3_; have HB := n4_; clear n0_ n1_ n2_ n3_ n4_; clear hg hw hp_; have hz114 := blk2 BK200.out; have hz115 := blk6 BK193.out) | ((with_reducible refine gate_callee (f := 9) rfl ?_); refine goesL_ (some 29) rfl rfl Try.func9 (by kernel_rfl) rfl #[.agg #[.slice none 0 0, .slice (some ⟨go3, 0, none⟩) y206.length co105], .agg #[.int .i64 2, .int .i64 0, .int .i64 10, .int .i64 5, .int .i64 3, .int .i64 20]] rfl (by (try simp only [List.map_toArray, List.map_cons, List.map_nil]); first | done | (rw [show y206.length = y197.length from (Kd.N_reads' HO199.out).1.symm] <;> rfl) | rfl | (simp only [List.length_drop, List.length_take]; rfl)) ?_; (refine (bounds_Analyze.calls k _ _ ([] : List (S95)) _ _ y206 2 0 10 5 3 20 t207 t210 t211 _ ?side1 ?side2 ?side3 ?side4 A4.out).mono ?_); (case side1 => exact Kd.C_nil _ _); (case side2 => exact Nat.le_refl _); (case side3 => repeat (first | exact (Kd.N_reads' HO199.out).2.2 | (with_reducible refine Kd.C_alloc ?_ _) | (with_reducible refine Kd.C_drewN ?_ _) | (with_reducible refine Kd.C_drew ?_))); (case side4 => rw [show y206.length = y197.length from (Kd.N_reads' HO199.out).1.symm]; exact (Kd.N_reads' HO199.out).2.1); rintro e w116 ⟨v208, rfl, ho0, hb⟩; refine ⟨_, rfl, ?_⟩; have HO209 := Aside0.mk (Kd.R_lower (Kd.R_new' ho0 (Kd.R_lt (by (with_reducible repeat (first | apply Kd.R_alloc | apply Kd.R_drewN | apply Kd.R_drew)); exact HO203.out))) below_sizeA); replace HO199 := Aside0.mk (Kd.N_elder' (by (with_reducible repeat (first | apply Kd.N_alloc | apply Kd.N_drewN | apply Kd.N_drew)); exact HO199.out) (Kd.R_base ho0) hb); replace HO203 := Aside0.mk (Kd.R_elder' (by (with_reducible repeat (first | apply Kd.R_alloc | apply Kd.R_drewN | apply Kd.R_drew)); exact HO203.out) (Kd.R_base ho0) hb); replace BK193 := Aside0.mk (blk_keepA BK193.out hb); replace BK200 := Aside0.mk (blk_keepA BK200.out hb); replace HB := Aside0.mk (below_stepA hb); (try clear hb); (try clear ho0)))
  go_ret
  exact ⟨by first | rfl | (simp [errW_none, errW_some] <;> rfl) | (simp [*, errW_none, errW_some] <;> rfl), belowA⟩

def erratalaw20_few.l0 : Nat → Int → List (S95) → List (S44) → Option (Bool)
  | 0, _, _, _ => none
  | k + 1, x3, x217000, x217001 => if x3 < (x217001.length : Int) then (if 0 ≤ x3 then (if (((rd_T44 x217001 x3).f1).length : Int) > 5 then (some false) else (if (((rd_T44 x217001 x3).f15).length : Int) > 20 then (some false) else (if (((rd_T44 x217001 x3).f14).length : Int) > 20 then (some false) else (erratalaw20_few.l0 k (wrap64 (x3 + 1)) x217000 x217001)))) else (none)) else (some (decide ((x217001.length : Int) ≤ 50)))
def erratalaw20_few.f (k : Nat) (l0_0 : List (S95)) (l0_1 : List (S44)) : Option (Bool) := erratalaw20_few.l0 k 0 l0_0 l0_1
set_option maxHeartbeats 8000000 in
set_option maxRecDepth 100000 in
theorem erratalaw20_few.calls (k : Nat) (A0_0 : Option Addr) (c0_0 : Nat) (l0_0 : List (S95)) (A0_1 : Option Addr) (c0_1 : Nat) (l0_1 : List (S44)) (r : Bool) (w : World) (hr0_0 : Kd.C k95 w A0_0 l0_0.length l0_0) (hc0_0 : l0_0.length ≤ c0_0) (hr0_1 : Kd.C k44 w A0_1 l0_1.length l0_1) (hc0_1 : l0_1.length ≤ c0_1) (h : erratalaw20_few.f k l0_0 l0_1 = some r) :
    Calls Try.prog 8 #[.agg #[.slice A0_0 l0_0.length c0_0, .slice A0_1 l0_1.length c0_1]] w fun e w' => e = .returned (.bool r) ∧ Below w.heap.size w w' := by
 have hu25 := Try.underlying25
 have hu44 := Try.underlying44
 have HR0_0 := Aside0.mk hr0_0
 have HC0_0 := Aside0.mk hc0_0
 clear hr0_0 hc0_0
 have HR0_1 := Aside0.mk hr0_1
 have HC0_1 := Aside0.mk hc0_1
 clear hr0_1 hc0_1
 have HB := Aside0.mk (Below.refl w.heap.size w)
 have H : (erratalaw20_few.l0 k 0 l0_0 l0_1) = some r := h
 clear h
 have H' := Aside0.mk H
 clear H
 go_enter Try.func8, Try.ntmps8
 go_wp2_with (first | ((with_reducible refine gate_dst (N := 1) rfl ?_); (try (refine gate_guard (by rfl) ?_; dsimp only)); refine box_event ?hg (N := 1) ?hd (cs := #[.slice A0_0 l0_0.length c0_0, .slice A0_1 l0_1.length c0_1]) (t := 25) ?hr ?_; (case hd => rfl); (case hg => rfl); (case hr => first | (go_simp; done) | (go_simp; rfl)); intro gb216 hg w2 hbox hb; have BK216 := Aside0.mk (hbox); have GW216 := Aside0.mk ((by rw [hg]; exact below_sizeA : w.heap.size ≤ gb216)); have GE216 := GW216; replace HB := Aside0.mk (below_stepA hb); clear hb hbox hg))
 go_loopg [3] k (fun kq v3 w' => ∃ (x3_1 : Int), v3 = .int .i64 x3_1 ∧ Aside0 (erratalaw20_few.l0 kq x3_1 l0_0 l0_1 = some r) ∧ Aside0 (kq ≤ k) ∧ Aside0 (w'.heap[gb216]? = some (.cells #[(.slice A0_0 l0_0.length c0_0), (.slice A0_1 l0_1.length c0_1)] 25 (0, 0))) ∧ Aside0 (Below w.heap.size w w'))
 case atStart => exact ⟨(0), (by first | rfl | (simp; done) | (simp [*]; done)), H', ⟨Nat.le_refl _⟩, ⟨blk_move BK216.out⟩, ⟨by repeat (first | (with_reducible first | exact HB.out | apply below_alloc | apply pw_below_drewN | apply below_drew1 | refine below_set ?_ GE216.out) | exact HB.out)⟩⟩
 case round =>
  clear H'
  try clear p2
  obtain ⟨x3_1, rfl, HA, HK1, BK216, HB⟩ := hrel
  cases gk with
  | zero => exact absurd HA.out (by simp [erratalaw20_few.l0])
  | succ k1 =>
   have H := HA.out
   clear HA
   simp only [erratalaw20_few.l0] at H
   by_cases c3 : x3_1 < (l0_1.length : Int)
   ·
    rw [if_pos c3] at H
    have c3b0 : decide (x3_1 < (l0_1.length : Int)) = true := decide_eq_true c3
    clear c3
    by_cases c4 : 0 ≤ x3_1
    case neg => rw [if_neg c4] at H; exact absurd H (by simp)
    rw [if_pos c4] at H
    have c4b0 : decide (0 ≤ x3_1) = true := decide_eq_true c4
    clear c4
    by_cases c5 : (((rd_T44 l0_1 x3_1).f1).length : Int) > 5
    ·
     rw [if_pos c5] at H
     have c5b0 : decide (5 < (((rd_T44 l0_1 x3_1).f1).length : Int)) = true := decide_eq_true c5
     have c5b1 : decide (5 < ((rd_T44 l0_1 x3_1).f1).length) = true := decide_eq_true (by omega)
     clear c5
     obtain rfl := Option.some.inj H
     have hz6 := blk2 BK216.out
     have p217 : 0 ≤ (x3_1 : Int) := odA
     have q217 : x3_1 < (l0_1.length : Int) := odA
     obtain ⟨ad217, A217_1, c217_1, A217_4, c217_4, A217_8, c217_8, A217_9, c217_9, A217_13, c217_13, A217_14, c217_14, A217_15, c217_15, e217, hx217_0, hx217_1, hx217_2, hx217_3, hx217_4, hx217_5, hx217_6, hx217_7, hx217_8, hx217_9, hx217_10, hx217_11, hx217_12, hx217_13, hx217_14, hx217_15, hl217_1, hi217_1, hl217_4, hi217_4, hl217_8, hi217_8, hl217_9, hi217_9, hl217_13, hi217_13, hl217_14, hi217_14, hl217_15, hi217_15⟩ := at_T44 HR0_1.out x3_1 p217 q217
     cases e217
     replace hx217_0 := pw_cell_below HB.out hx217_0
     replace hx217_1 := pw_cell_below HB.out hx217_1
     replace hx217_2 := pw_cell_below HB.out hx217_2
     replace hx217_3 := pw_cell_below HB.out hx217_3
     replace hx217_4 := pw_cell_below HB.out hx217_4
     replace hx217_5 := pw_cell_below HB.out hx217_5
     replace hx217_6 := pw_cell_below HB.out hx217_6
     replace hx217_7 := pw_cell_below HB.out hx217_7
     replace hx217_8 := pw_cell_below HB.out hx217_8
     replace hx217_9 := pw_cell_below HB.out hx217_9
     replace hx217_10 := pw_cell_below HB.out hx217_10
     replace hx217_11 := pw_cell_below HB.out hx217_11
     replace hx217_12 := pw_cell_below HB.out hx217_12
     replace hx217_13 := pw_cell_below HB.out hx217_13
     replace hx217_14 := pw_cell_below HB.out hx217_14
     replace hx217_15 := pw_cell_below HB.out hx217_15
     have HR217_1 := Aside0.mk hi217_1
     have HC217_1 := Aside0.mk hl217_1
     clear hi217_1 hl217_1
     have HR217_4 := Aside0.mk hi217_4
     have HC217_4 := Aside0.mk hl217_4
     clear hi217_4 hl217_4
     have HR217_8 := Aside0.mk hi217_8
     have HC217_8 := Aside0.mk hl217_8
     clear hi217_8 hl217_8
     have HR217_9 := Aside0.mk hi217_9
     have HC217_9 := Aside0.mk hl217_9
     clear hi217_9 hl217_9
     have HR217_13 := Aside0.mk hi217_13
     have HC217_13 := Aside0.mk hl217_13
     clear hi217_13 hl217_13
     have HR217_14 := Aside0.mk hi217_14
     have HC217_14 := Aside0.mk hl217_14
     clear hi217_14 hl217_14
     have HR217_15 := Aside0.mk hi217_15
     have HC217_15 := Aside0.mk hl217_15
     clear hi217_15 hl217_15
     replace p217 := eq_true p217
     replace q217 := eq_true q217
     go_wp2_with (first | ((with_reducible refine gate_dst (N := 4) rfl ?_); (try (refine gate_guard (by rfl) ?_; dsimp only)); refine box_event ?hg (N := 4) ?hd (cs := #[.int .i64 0, .slice none 0 0, .string (⟨#[]⟩ : ByteArray), .int .i64 0, .slice none 0 0, .int .i64 0, .int .i64 0, .int .i64 0, .slice none 0 0, .slice none 0 0, .int .i64 0, .int .i64 0, .int .i64 0, .slice none 0 0, .slice none 0 0, .slice none 0 0]) (t := 44) ?hr ?_; (case hd => rfl); (case hg => rfl); (case hr => first | (go_simp; done) | (go_simp; rfl)); intro gb218 hg w7 hbox hb; have BK218 := Aside0.mk (hbox); have GW218 := Aside0.mk ((by rw [hg]; exact below_sizeA : w.heap.size ≤ gb218)); have GE218 := GW218; have NB216_218 := Aside0.mk ((by rw [hg]; exact Nat.ne_of_lt (blk_ltKA BK216.out) : gb216 ≠ gb218)); have NB218_216 := Aside0.mk NB216_218.out.symm; replace BK216 := Aside0.mk (blk_keepA BK216.out hb); replace HB := Aside0.mk (below_stepA hb); clear hb hbox hg; have hnb8 := NB218_216.out; have hnc8 := NB216_218.out; have hz9 := blk16 BK218.out))
     go_ret
     exact ⟨by first | rfl | (simp [errW_none, errW_some] <;> rfl) | (simp [*, errW_none, errW_some] <;> rfl), belowA⟩
    ·
     rw [if_neg c5] at H
     have c5b0 : decide (5 < (((rd_T44 l0_1 x3_1).f1).length : Int)) = false := decide_eq_false c5
     have c5b1 : decide (5 < ((rd_T44 l0_1 x3_1).f1).length) = false := decide_eq_false (by omega)
     clear c5
     by_cases c10 : (((rd_T44 l0_1 x3_1).f15).length : Int) > 20
     ·
      rw [if_pos c10] at H
      have c10b0 : decide (20 < (((rd_T44 l0_1 x3_1).f15).length : Int)) = true := decide_eq_true c10
      have c10b1 : decide (20 < ((rd_T44 l0_1 x3_1).f15).length) = true := decide_eq_true (by omega)
      clear c10
      obtain rfl := Option.some.inj H
      have hz11 := blk2 BK216.out
      have p217 : 0 ≤ (x3_1 : Int) := odA
      have q217 : x3_1 < (l0_1.length : Int) := odA
      obtain ⟨ad217, A217_1, c217_1, A217_4, c217_4, A217_8, c217_8, A217_9, c217_9, A217_13, c217_13, A217_14, c217_14, A217_15, c217_15, e217, hx217_0, hx217_1, hx217_2, hx217_3, hx217_4, hx217_5, hx217_6, hx217_7, hx217_8, hx217_9, hx217_10, hx217_11, hx217_12, hx217_13, hx217_14, hx217_15, hl217_1, hi217_1, hl217_4, hi217_4, hl217_8, hi217_8, hl217_9, hi217_9, hl217_13, hi217_13, hl217_14, hi217_14, hl217_15, hi217_15⟩ := at_T44 HR0_1.out x3_1 p217 q217
      cases e217
      replace hx217_0 := pw_cell_below HB.out hx217_0
      replace hx217_1 := pw_cell_below HB.out hx217_1
      replace hx217_2 := pw_cell_below HB.out hx217_2
      replace hx217_3 := pw_cell_below HB.out hx217_3
      replace hx217_4 := pw_cell_below HB.out hx217_4
      replace hx217_5 := pw_cell_below HB.out hx217_5
      replace hx217_6 := pw_cell_below HB.out hx217_6
      replace hx217_7 := pw_cell_below HB.out hx217_7
      replace hx217_8 := pw_cell_below HB.out hx217_8
      replace hx217_9 := pw_cell_below HB.out hx217_9
      replace hx217_10 := pw_cell_below HB.out hx217_10
      replace hx217_11 := pw_cell_below HB.out hx217_11
      replace hx217_12 := pw_cell_below HB.out hx217_12
      replace hx217_13 := pw_cell_below HB.out hx217_13
      replace hx217_14 := pw_cell_below HB.out hx217_14
      replace hx217_15 := pw_cell_below HB.out hx217_15
      have HR217_1 := Aside0.mk hi217_1
      have HC217_1 := Aside0.mk hl217_1
      clear hi217_1 hl217_1
      have HR217_4 := Aside0.mk hi217_4
      have HC217_4 := Aside0.mk hl217_4
      clear hi217_4 hl217_4
      have HR217_8 := Aside0.mk hi217_8
      have HC217_8 := Aside0.mk hl217_8
      clear hi217_8 hl217_8
      have HR217_9 := Aside0.mk hi217_9
      have HC217_9 := Aside0.mk hl217_9
      clear hi217_9 hl217_9
      have HR217_13 := Aside0.mk hi217_13
      have HC217_13 := Aside0.mk hl217_13
      clear hi217_13 hl217_13
      have HR217_14 := Aside0.mk hi217_14
      have HC217_14 := Aside0.mk hl217_14
      clear hi217_14 hl217_14
      have HR217_15 := Aside0.mk hi217_15
      have HC217_15 := Aside0.mk hl217_15
      clear hi217_15 hl217_15
      replace p217 := eq_true p217
      replace q217 := eq_true q217
      go_wp2_with (first | ((with_reducible refine gate_dst (N := 4) rfl ?_); (try (refine gate_guard (by rfl) ?_; dsimp only)); refine box_event ?hg (N := 4) ?hd (cs := #[.int .i64 0, .slice none 0 0, .string (⟨#[]⟩ : ByteArray), .int .i64 0, .slice none 0 0, .int .i64 0, .int .i64 0, .int .i64 0, .slice none 0 0, .slice none 0 0, .int .i64 0, .int .i64 0, .int .i64 0, .slice none 0 0, .slice none 0 0, .slice none 0 0]) (t := 44) ?hr ?_; (case hd => rfl); (case hg => rfl); (case hr => first | (go_simp; done) | (go_simp; rfl)); intro gb218 hg w12 hbox hb; have BK218 := Aside0.mk (hbox); have GW218 := Aside0.mk ((by rw [hg]; exact below_sizeA : w.heap.size ≤ gb218)); have GE218 := GW218; have NB216_218 := Aside0.mk ((by rw [hg]; exact Nat.ne_of_lt (blk_ltKA BK216.out) : gb216 ≠ gb218)); have NB218_216 := Aside0.mk NB216_218.out.symm; replace BK216 := Aside0.mk (blk_keepA BK216.out hb); replace HB := Aside0.mk (below_stepA hb); clear hb hbox hg; have hnb13 := NB218_216.out; have hnc13 := NB216_218.out; have hz14 := blk16 BK218.out))
      go_ret
      exact ⟨by first | rfl | (simp [errW_none, errW_some] <;> rfl) | (simp [*, errW_none, errW_some] <;> rfl), belowA⟩
     ·
      rw [if_neg c10] at H
      have c10b0 : decide (20 < (((rd_T44 l0_1 x3_1).f15).length : Int)) = false := decide_eq_false c10
      have c10b1 : decide (20 < ((rd_T44 l0_1 x3_1).f15).length) = false := decide_eq_false (by omega)
      clear c10
      by_cases c15 : (((rd_T44 l0_1 x3_1).f14).length : Int) > 20
      ·
       rw [if_pos c15] at H
       have c15b0 : decide (20 < (((rd_T44 l0_1 x3_1).f14).length : Int)) = true := decide_eq_true c15
       have c15b1 : decide (20 < ((rd_T44 l0_1 x3_1).f14).length) = true := decide_eq_true (by omega)
       clear c15
       obtain rfl := Option.some.inj H
       have hz16 := blk2 BK216.out
       have p217 : 0 ≤ (x3_1 : Int) := odA
       have q217 : x3_1 < (l0_1.length : Int) := odA
       obtain ⟨ad217, A217_1, c217_1, A217_4, c217_4, A217_8, c217_8, A217_9, c217_9, A217_13, c217_13, A217_14, c217_14, A217_15, c217_15, e217, hx217_0, hx217_1, hx217_2, hx217_3, hx217_4, hx217_5, hx217_6, hx217_7, hx217_8, hx217_9, hx217_10, hx217_11, hx217_12, hx217_13, hx217_14, hx217_15, hl217_1, hi217_1, hl217_4, hi217_4, hl217_8, hi217_8, hl217_9, hi217_9, hl217_13, hi217_13, hl217_14, hi217_14, hl217_15, hi217_15⟩ := at_T44 HR0_1.out x3_1 p217 q217
       cases e217
       replace hx217_0 := pw_cell_below HB.out hx217_0
       replace hx217_1 := pw_cell_below HB.out hx217_1
       replace hx217_2 := pw_cell_below HB.out hx217_2
       replace hx217_3 := pw_cell_below HB.out hx217_3
       replace hx217_4 := pw_cell_below HB.out hx217_4
       replace hx217_5 := pw_cell_below HB.out hx217_5
       replace hx217_6 := pw_cell_below HB.out hx217_6
       replace hx217_7 := pw_cell_below HB.out hx217_7
       replace hx217_8 := pw_cell_below HB.out hx217_8
       replace hx217_9 := pw_cell_below HB.out hx217_9
       replace hx217_10 := pw_cell_below HB.out hx217_10
       replace hx217_11 := pw_cell_below HB.out hx217_11
       replace hx217_12 := pw_cell_below HB.out hx217_12
       replace hx217_13 := pw_cell_below HB.out hx217_13
       replace hx217_14 := pw_cell_below HB.out hx217_14
       replace hx217_15 := pw_cell_below HB.out hx217_15
       have HR217_1 := Aside0.mk hi217_1
       have HC217_1 := Aside0.mk hl217_1
       clear hi217_1 hl217_1
       have HR217_4 := Aside0.mk hi217_4
       have HC217_4 := Aside0.mk hl217_4
       clear hi217_4 hl217_4
       have HR217_8 := Aside0.mk hi217_8
       have HC217_8 := Aside0.mk hl217_8
       clear hi217_8 hl217_8
       have HR217_9 := Aside0.mk hi217_9
       have HC217_9 := Aside0.mk hl217_9
       clear hi217_9 hl217_9
       have HR217_13 := Aside0.mk hi217_13
       have HC217_13 := Aside0.mk hl217_13
       clear hi217_13 hl217_13
       have HR217_14 := Aside0.mk hi217_14
       have HC217_14 := Aside0.mk hl217_14
       clear hi217_14 hl217_14
       have HR217_15 := Aside0.mk hi217_15
       have HC217_15 := Aside0.mk hl217_15
       clear hi217_15 hl217_15
       replace p217 := eq_true p217
       replace q217 := eq_true q217
       go_wp2_with (first | ((with_reducible refine gate_dst (N := 4) rfl ?_); (try (refine gate_guard (by rfl) ?_; dsimp only)); refine box_event ?hg (N := 4) ?hd (cs := #[.int .i64 0, .slice none 0 0, .string (⟨#[]⟩ : ByteArray), .int .i64 0, .slice none 0 0, .int .i64 0, .int .i64 0, .int .i64 0, .slice none 0 0, .slice none 0 0, .int .i64 0, .int .i64 0, .int .i64 0, .slice none 0 0, .slice none 0 0, .slice none 0 0]) (t := 44) ?hr ?_; (case hd => rfl); (case hg => rfl); (case hr => first | (go_simp; done) | (go_simp; rfl)); intro gb218 hg w17 hbox hb; have BK218 := Aside0.mk (hbox); have GW218 := Aside0.mk ((by rw [hg]; exact below_sizeA : w.heap.size ≤ gb218)); have GE218 := GW218; have NB216_218 := Aside0.mk ((by rw [hg]; exact Nat.ne_of_lt (blk_ltKA BK216.out) : gb216 ≠ gb218)); have NB218_216 := Aside0.mk NB216_218.out.symm; replace BK216 := Aside0.mk (blk_keepA BK216.out hb); replace HB := Aside0.mk (below_stepA hb); clear hb hbox hg; have hnb18 := NB218_216.out; have hnc18 := NB216_218.out; have hz19 := blk16 BK218.out))
       go_ret
       exact ⟨by first | rfl | (simp [errW_none, errW_some] <;> rfl) | (simp [*, errW_none, errW_some] <;> rfl), belowA⟩
      ·
       rw [if_neg c15] at H
       have c15b0 : decide (20 < (((rd_T44 l0_1 x3_1).f14).length : Int)) = false := decide_eq_false c15
       have c15b1 : decide (20 < ((rd_T44 l0_1 x3_1).f14).length) = false := decide_eq_false (by omega)
       clear c15
       have H' := Aside0.mk H
       clear H
       have hz20 := blk2 BK216.out
       have p217 : 0 ≤ (x3_1 : Int) := odA
       have q217 : x3_1 < (l0_1.length : Int) := odA
       obtain ⟨ad217, A217_1, c217_1, A217_4, c217_4, A217_8, c217_8, A217_9, c217_9, A217_13, c217_13, A217_14, c217_14, A217_15, c217_15, e217, hx217_0, hx217_1, hx217_2, hx217_3, hx217_4, hx217_5, hx217_6, hx217_7, hx217_8, hx217_9, hx217_10, hx217_11, hx217_12, hx217_13, hx217_14, hx217_15, hl217_1, hi217_1, hl217_4, hi217_4, hl217_8, hi217_8, hl217_9, hi217_9, hl217_13, hi217_13, hl217_14, hi217_14, hl217_15, hi217_15⟩ := at_T44 HR0_1.out x3_1 p217 q217
       cases e217
       replace hx217_0 := pw_cell_below HB.out hx217_0
       replace hx217_1 := pw_cell_below HB.out hx217_1
       replace hx217_2 := pw_cell_below HB.out hx217_2
       replace hx217_3 := pw_cell_below HB.out hx217_3
       replace hx217_4 := pw_cell_below HB.out hx217_4
       replace hx217_5 := pw_cell_below HB.out hx217_5
       replace hx217_6 := pw_cell_below HB.out hx217_6
       replace hx217_7 := pw_cell_below HB.out hx217_7
       replace hx217_8 := pw_cell_below HB.out hx217_8
       replace hx217_9 := pw_cell_below HB.out hx217_9
       replace hx217_10 := pw_cell_below HB.out hx217_10
       replace hx217_11 := pw_cell_below HB.out hx217_11
       replace hx217_12 := pw_cell_below HB.out hx217_12
       replace hx217_13 := pw_cell_below HB.out hx217_13
       replace hx217_14 := pw_cell_below HB.out hx217_14
       replace hx217_15 := pw_cell_below HB.out hx217_15
       have HR217_1 := Aside0.mk hi217_1
       have HC217_1 := Aside0.mk hl217_1
       clear hi217_1 hl217_1
       have HR217_4 := Aside0.mk hi217_4
       have HC217_4 := Aside0.mk hl217_4
       clear hi217_4 hl217_4
       have HR217_8 := Aside0.mk hi217_8
       have HC217_8 := Aside0.mk hl217_8
       clear hi217_8 hl217_8
       have HR217_9 := Aside0.mk hi217_9
       have HC217_9 := Aside0.mk hl217_9
       clear hi217_9 hl217_9
       have HR217_13 := Aside0.mk hi217_13
       have HC217_13 := Aside0.mk hl217_13
       clear hi217_13 hl217_13
       have HR217_14 := Aside0.mk hi217_14
       have HC217_14 := Aside0.mk hl217_14
       clear hi217_14 hl217_14
       have HR217_15 := Aside0.mk hi217_15
       have HC217_15 := Aside0.mk hl217_15
       clear hi217_15 hl217_15
       replace p217 := eq_true p217
       replace q217 := eq_true q217
       go_wp2_with (first | ((with_reducible refine gate_dst (N := 4) rfl ?_); (try (refine gate_guard (by rfl) ?_; dsimp only)); refine box_event ?hg (N := 4) ?hd (cs := #[.int .i64 0, .slice none 0 0, .string (⟨#[]⟩ : ByteArray), .int .i64 0, .slice none 0 0, .int .i64 0, .int .i64 0, .int .i64 0, .slice none 0 0, .slice none 0 0, .int .i64 0, .int .i64 0, .int .i64 0, .slice none 0 0, .slice none 0 0, .slice none 0 0]) (t := 44) ?hr ?_; (case hd => rfl); (case hg => rfl); (case hr => first | (go_simp; done) | (go_simp; rfl)); intro gb218 hg w21 hbox hb; have BK218 := Aside0.mk (hbox); have GW218 := Aside0.mk ((by rw [hg]; exact below_sizeA : w.heap.size ≤ gb218)); have GE218 := GW218; have NB216_218 := Aside0.mk ((by rw [hg]; exact Nat.ne_of_lt (blk_ltKA BK216.out) : gb216 ≠ gb218)); have NB218_216 := Aside0.mk NB216_218.out.symm; replace BK216 := Aside0.mk (blk_keepA BK216.out hb); replace HB := Aside0.mk (below_stepA hb); clear hb hbox hg; have hnb22 := NB218_216.out; have hnc22 := NB216_218.out; have hz23 := blk16 BK218.out))
       go_roundg k1
       case measure => have := HK1.out; omega
       case rel => exact ⟨(wrap64 (x3_1 + 1)), (by first | rfl | (simp; done) | (simp [*]; done)), H', ⟨by have := HK1.out; omega⟩, ⟨blk_move BK216.out⟩, ⟨by repeat (first | (with_reducible first | exact HB.out | apply below_alloc | apply pw_below_drewN | apply below_drew1 | refine below_set ?_ GE216.out | refine below_set ?_ GE218.out) | exact HB.out)⟩⟩
   ·
    rw [if_neg c3] at H
    have c3b0 : decide (x3_1 < (l0_1.length : Int)) = false := decide_eq_false c3
    clear c3
    obtain rfl := Option.some.inj H
    have hz24 := blk2 BK216.out
    go_wp2
    go_ret
    exact ⟨by first | rfl | (simp [errW_none, errW_some] <;> rfl) | (simp [*, errW_none, errW_some] <;> rfl), belowA⟩

end Go.Proofs.Yteoljddobfnfiaa.PB
end
section
namespace Go.Proofs.Yteoljddobfnfiaa.Pure
open Go.RowKit Go.Proofs.YteoljddobfnfiaaW.PrintWords Go.Proofs.YteoljddobfnfiaaW.PrintLast Go.Proofs.YteoljddobfnfiaaW.PrintMore Go.Proofs.Yteoljddobfnfiaa.PB
set_option linter.unusedVariables false
set_option linter.unusedSimpArgs false

theorem small_ev : Ev (fun k => erratalaw20_small.f k) true := Ev.of (fun k => erratalaw20_small.mono k) (k := 12) (by kernel_rfl)

def fewN (n : S44) : Bool := decide ((n.f1.length : Int) ≤ 5) && (decide ((n.f15.length : Int) ≤ 20) && decide ((n.f14.length : Int) ≤ 20))
def few (l : List S44) : Bool := l.all fewN && decide ((l.length : Int) ≤ 50)
theorem few_l0 (l : List S44) (F : List S95) (hl : l.length ≤ 9223372036854775807) : ∀ d i : Nat, i + d = l.length → Ev (fun k => erratalaw20_few.l0 k (i : Int) F l) ((l.drop i).all fewN && decide ((l.length : Int) ≤ 50))
  | 0, i, hi => by
    refine Ev.step (f := fun _ => some (decide ((l.length : Int) ≤ 50))) (fun k => ?_) (by rw [List.drop_of_length_le (by omega)]; exact Ev.now _)
    simp only [erratalaw20_few.l0]
    rw [if_neg (by omega)]
  | d + 1, i, hi => by
    have hil : i < l.length := by omega
    have e : l.drop i = l[i] :: l.drop (i + 1) := List.drop_eq_getElem_cons hil
    have ih := few_l0 l F hl d (i + 1) (by omega)
    rw [e, List.all_cons]
    by_cases h1 : (l[i].f1.length : Int) ≤ 5
    · by_cases h2 : (l[i].f15.length : Int) ≤ 20
      · by_cases h3 : (l[i].f14.length : Int) ≤ 20
        · refine Ev.step (fun k => ?_) (by rw [show fewN l[i] = true by unfold fewN; simp [h1, h2, h3], Bool.true_and]; exact ih)
          simp only [erratalaw20_few.l0]
          rw [if_pos (by omega), if_pos (by omega), rd44_at hil, if_neg (by omega), if_neg (by omega), if_neg (by omega), wrap_id (by omega) (by omega), cast_succ]
        · refine Ev.step (fun k => ?_) (by rw [show fewN l[i] = false by unfold fewN; simp [h3], Bool.false_and, Bool.false_and]; exact Ev.now _)
          simp only [erratalaw20_few.l0]
          rw [if_pos (by omega), if_pos (by omega), rd44_at hil, if_neg (by omega), if_neg (by omega), if_pos (by omega)]
      · refine Ev.step (fun k => ?_) (by rw [show fewN l[i] = false by unfold fewN; simp [h2], Bool.false_and, Bool.false_and]; exact Ev.now _)
        simp only [erratalaw20_few.l0]
        rw [if_pos (by omega), if_pos (by omega), rd44_at hil, if_neg (by omega), if_pos (by omega)]
    · refine Ev.step (fun k => ?_) (by rw [show fewN l[i] = false by unfold fewN; simp [h1], Bool.false_and, Bool.false_and]; exact Ev.now _)
      simp only [erratalaw20_few.l0]
      rw [if_pos (by omega), if_pos (by omega), rd44_at hil, if_pos (by omega)]
theorem few_ev (l : List S44) (F : List S95) (hl : l.length ≤ 9223372036854775807) : Ev (fun k => erratalaw20_few.f k F l) (few l) := by
  have := few_l0 l F hl l.length 0 (by omega)
  rw [List.drop_zero] at this
  exact this

theorem backOf_congr {b1 b2 : List S37} : ∀ (l : List Int) (s : Int), (∀ x ∈ l, rd_T37 b1 x = rd_T37 b2 x) → backOf b1 l s = backOf b2 l s
  | [], _, _ => rfl
  | x :: l, s, h => by
    have ih := backOf_congr l (mx s (rd_T37 b2 x).f0) (fun y hy => h y (List.mem_cons_of_mem _ hy))
    unfold backOf at ih ⊢
    rw [List.foldl_cons, List.foldl_cons, h x List.mem_cons_self, ih]
theorem foreOf_congr {b1 b2 : List S37} : ∀ (l : List Int) (s : Int), (∀ x ∈ l, rd_T37 b1 x = rd_T37 b2 x) → foreOf b1 l s = foreOf b2 l s
  | [], _, _ => rfl
  | x :: l, s, h => by
    have ih := foreOf_congr l (mx s (rd_T37 b2 x).f1) (fun y hy => h y (List.mem_cons_of_mem _ hy))
    unfold foreOf at ih ⊢
    rw [List.foldl_cons, List.foldl_cons, h x List.mem_cons_self, ih]
theorem stOf_congr {b1 b2 : List S37} {c5 o : Int} : ∀ (l : List Int) (s : Int), (∀ x ∈ l, rd_T37 b1 x = rd_T37 b2 x) → stOf b1 c5 o l s = stOf b2 c5 o l s
  | [], _, _ => rfl
  | x :: l, s, h => by
    have ih := stOf_congr (c5 := c5) (o := o) l (mn (s + mn ((rd_T37 b2 x).f2 * (c5 + (rd_T37 b2 x).f1 + o)) 1099511627776) 1099511627776) (fun y hy => h y (List.mem_cons_of_mem _ hy))
    unfold stOf at ih ⊢
    rw [List.foldl_cons, List.foldl_cons, h x List.mem_cons_self, ih]
theorem boundOf_congr {i c0 c4 c5 : Int} {b1 b2 : List S37} {n : S44} (hn : okNode i n = true) (h : ∀ x, 0 ≤ x → x < i → rd_T37 b1 x = rd_T37 b2 x) : boundOf b1 c0 c4 c5 n = boundOf b2 c0 c4 c5 n := by
  obtain ⟨ho, hi, hl⟩ := node_ins hn
  have hm : ∀ x ∈ n.f1, rd_T37 b1 x = rd_T37 b2 x := fun x hx => h x (okIn_mem hl hx).1 (okIn_mem hl hx).2
  have hr : rateOf b1 c0 c4 n = rateOf b2 c0 c4 n := by
    unfold rateOf
    by_cases e0 : n.f0 = 0
    · rw [if_pos e0, if_pos e0]
    rw [if_neg e0, if_neg e0]
    have a0 := in_at hl (ins1 hi e0)
    have q0 : rd_T37 b1 (rd n.f1 0) = rd_T37 b2 (rd n.f1 0) := h _ a0.1 a0.2
    rw [q0]
    by_cases e3 : n.f0 = 3
    · have a1 := in_at hl (ins2 hi (by omega))
      have q1 : rd_T37 b1 (rd n.f1 1) = rd_T37 b2 (rd n.f1 1) := h _ a1.1 a1.2
      rw [q1]
    rw [if_neg e3, if_neg e3]
    by_cases e4 : n.f0 = 4 ∨ n.f0 = 5
    · rw [if_pos e4, if_pos e4]
    rw [if_neg e4, if_neg e4]
    by_cases e6 : n.f0 = 6
    · have a1 := in_at hl (ins2 hi (by omega))
      have q1 : rd_T37 b1 (rd n.f1 1) = rd_T37 b2 (rd n.f1 1) := h _ a1.1 a1.2
      rw [q1]
    rw [if_neg e6, if_neg e6]
  unfold boundOf
  rw [backOf_congr _ _ hm, foreOf_congr _ _ hm, stOf_congr _ _ hm, hr]

theorem ana_acc {c0 c4 c5 : Int} : ∀ (r : List S44) (i : Int) (bs R : List S37) (e : Int), ana c0 c4 c5 i bs r = (R, e, 0) →
    (∃ t, R = bs ++ t ∧ t.length = r.length) ∧ e = -1 ∧ ∀ (j : Nat) (hj : j < r.length), bdd r[j] = true ∧ (boundOf (R.take (bs.length + j)) c0 c4 c5 r[j]).f2 < 1099511627776 ∧ (boundOf (R.take (bs.length + j)) c0 c4 c5 r[j]).f3 < 1099511627776 ∧ R[bs.length + j]? = some (boundOf (R.take (bs.length + j)) c0 c4 c5 r[j])
  | [], i, bs, R, e, h => by
    simp only [ana, Prod.mk.injEq] at h
    exact ⟨⟨[], by rw [List.append_nil]; exact h.1.symm, rfl⟩, h.2.1.symm, fun j hj => absurd hj (Nat.not_lt_zero j)⟩
  | n :: r, i, bs, R, e, h => by
    rw [ana] at h
    by_cases hb : bdd n = true
    · rw [if_pos hb] at h
      by_cases hm : 1099511627776 ≤ (boundOf bs c0 c4 c5 n).f2 ∨ 1099511627776 ≤ (boundOf bs c0 c4 c5 n).f3
      · rw [if_pos hm] at h
        simp at h
      rw [if_neg hm] at h
      obtain ⟨⟨t, ht, hlen⟩, he, hrest⟩ := ana_acc r (i + 1) (bs ++ [boundOf bs c0 c4 c5 n]) R e h
      refine ⟨⟨boundOf bs c0 c4 c5 n :: t, by rw [ht, List.append_assoc]; rfl, by rw [List.length_cons, List.length_cons, hlen]⟩, he, fun j hj => ?_⟩
      cases j with
      | zero =>
        have e1 : R.take bs.length = bs := by rw [ht, List.append_assoc]; simp
        have e2 : R[bs.length]? = some (boundOf bs c0 c4 c5 n) := by rw [ht, List.append_assoc]; simp
        simp only [Nat.add_zero, List.getElem_cons_zero]
        rw [e1, e2]
        exact ⟨hb, by omega, by omega, rfl⟩
      | succ j =>
        have := hrest j (by simpa using hj)
        rw [List.length_append, List.length_singleton, show bs.length + 1 + j = bs.length + (j + 1) by omega] at this
        simpa using this
    · rw [if_neg hb] at h
      simp at h
theorem okFrom_at : ∀ (l : List S44) (i : Int), okFrom i l = true → ∀ (j : Nat) (hj : j < l.length), okNode (i + j) l[j] = true
  | [], _, _, j, hj => absurd hj (Nat.not_lt_zero j)
  | n :: l, i, h, j, hj => by
    rw [okFrom] at h
    obtain ⟨h1, h2⟩ := Bool.and_eq_true_iff.1 h
    cases j with
    | zero => simpa using h1
    | succ j =>
      have := okFrom_at l (i + 1) h2 j (by simpa using hj)
      rw [show i + ((j + 1 : Nat) : Int) = i + 1 + (j : Int) by omega]
      simpa using this
structure Acc (l : List S44) (c0 c1 c2 c3 c4 c5 : Int) (bs : List S37) : Prop where
  right : rightC c0 c1 c2 c3 c4 c5
  well : well l = true
  len : bs.length = l.length
  node : ∀ (j : Nat) (hj : j < l.length), okNode (j : Int) l[j] = true ∧ bdd l[j] = true ∧ rd_T37 bs (j : Int) = boundOf bs c0 c4 c5 l[j] ∧ okB ((j : Int) + 1) (rd_T37 bs (j : Int)) ∧ (rd_T37 bs (j : Int)).f2 < 1099511627776 ∧ (rd_T37 bs (j : Int)).f3 < 1099511627776
  pre : pre (l.length : Int) bs
theorem rd37_take {bs : List S37} {j : Nat} (hj : j ≤ bs.length) {x : Int} (h0 : 0 ≤ x) (h1 : x < (j : Int)) : rd_T37 (bs.take j) x = rd_T37 bs x := by
  have e : ((x.toNat : Nat) : Int) = x := Int.toNat_of_nonneg h0
  rw [← e, rd37_at (by rw [List.length_take]; omega), rd37_at (by omega), List.getElem_take]
theorem analyze_acc {l : List S44} {c0 c1 c2 c3 c4 c5 : Int} {bs : List S37} {e : Int} (h : analyze l c0 c1 c2 c3 c4 c5 = (bs, e, 0)) : Acc l c0 c1 c2 c3 c4 c5 bs := by
  unfold analyze at h
  by_cases hc : rightC c0 c1 c2 c3 c4 c5 ∧ well l = true
  · rw [if_pos hc] at h
    obtain ⟨⟨t, ht, hlen⟩, he, hn⟩ := ana_acc l 0 [] bs e h
    have hR : bs.length = l.length := by rw [ht]; simpa using hlen
    have hw := well_len hc.2
    have hr := hc.1
    unfold rightC at hr
    have hp : ∀ j : Nat, j ≤ l.length → Pure.pre (j : Int) (bs.take j) := by
      intro j
      induction j with
      | zero => exact fun _ => ⟨rfl, fun b hb => by simp at hb⟩
      | succ j ih =>
        intro hj
        have hjl : j < l.length := by omega
        obtain ⟨k1, k2, k3, k4⟩ := hn j hjl
        simp only [List.length_nil, Nat.zero_add] at k4
        have hok := okFrom_at l 0 hw.1 j hjl
        rw [Int.zero_add] at hok
        have e1 : bs.take (j + 1) = bs.take j ++ [boundOf (bs.take j) c0 c4 c5 l[j]] := by
          rw [List.take_add_one, k4]
          rfl
        rw [e1, ← cast_succ]
        exact pre_snoc (ih (by omega)) (boundOf_ok (by omega) (ih (by omega)) hok k1 (by omega) (by omega) (by omega))
    refine ⟨hc.1, hc.2, hR, fun j hj => ?_, by have := hp l.length (Nat.le_refl _); rwa [List.take_of_length_le (by omega)] at this⟩
    obtain ⟨k1, k2, k3, k4⟩ := hn j hj
    simp only [List.length_nil, Nat.zero_add] at k2 k3 k4
    have hok := okFrom_at l 0 hw.1 j hj
    rw [Int.zero_add] at hok
    have e2 : boundOf (bs.take j) c0 c4 c5 l[j] = boundOf bs c0 c4 c5 l[j] := boundOf_congr hok (fun x h0 h1 => rd37_take (by omega) h0 h1)
    have e3 : rd_T37 bs (j : Int) = boundOf bs c0 c4 c5 l[j] := by
      rw [rd37_at (by omega), ← e2]
      rw [List.getElem?_eq_getElem (by omega)] at k4
      exact Option.some.inj k4
    rw [e3, ← e2]
    exact ⟨hok, k1, rfl, boundOf_ok (by omega) (hp j (by omega)) hok k1 (by omega) (by omega) (by omega), k2, k3⟩
  · rw [if_neg hc] at h
    simp at h
end Go.Proofs.Yteoljddobfnfiaa.Pure
end
section
namespace Go.Proofs.Yteoljddobfnfiaa.PB
open Go.RowKit Go.Proofs.YteoljddobfnfiaaW.PrintWords Go.Proofs.YteoljddobfnfiaaW.PrintLast Go.Proofs.YteoljddobfnfiaaW.PrintMore
attribute [local go_sem] max2_int min2_int max_two min_two max_three min_three max_four min_four
attribute [local go_sem ↓ high] Go.Proofs.Yteoljddobfnfiaa.My.ld44_eq Go.Proofs.Yteoljddobfnfiaa.My.st44_eq Go.Proofs.Yteoljddobfnfiaa.My.ld27_eq Go.Proofs.Yteoljddobfnfiaa.My.st27_eq Go.Proofs.Yteoljddobfnfiaa.My.ld37_eq Go.Proofs.Yteoljddobfnfiaa.My.st37_eq Go.Proofs.Yteoljddobfnfiaa.My.ld65_eq Go.Proofs.Yteoljddobfnfiaa.My.st65_eq
attribute [local go_sem high] Go.Proofs.Yteoljddobfnfiaa.My.ld44_run Go.Proofs.Yteoljddobfnfiaa.My.st44_run Go.Proofs.Yteoljddobfnfiaa.My.ld27_run Go.Proofs.Yteoljddobfnfiaa.My.st27_run Go.Proofs.Yteoljddobfnfiaa.My.ld37_run Go.Proofs.Yteoljddobfnfiaa.My.st37_run Go.Proofs.Yteoljddobfnfiaa.My.ld65_run Go.Proofs.Yteoljddobfnfiaa.My.st65_run
open Go.Proofs.Yteoljddobfnfiaa.My
attribute [local go_sem] cell_map run_store_fnV one_int one_bool one_string one_slice one_fnV
set_option linter.unusedVariables false
set_option linter.unusedSimpArgs false

def value_Zero.f (a0 : Int) : Option (Int × Int × ByteArray) := some (a0, 0, (⟨#[]⟩ : ByteArray))
set_option maxHeartbeats 8000000 in
set_option maxRecDepth 100000 in
theorem value_Zero.calls (a0 : Int) (r1 : Int) (r2 : Int) (r3 : ByteArray) (w : World) (h : value_Zero.f a0 = some (r1, r2, r3)) :
    Calls Try.prog 29 #[.int .i64 a0] w fun e w' => e = .returned (.agg #[.int .i64 r1, .int .i64 r2, .string r3]) ∧ Below w.heap.size w w' := by
 have hu70 := Try.underlying70
 have HB := Aside0.mk (Below.refl w.heap.size w)
 have H : (some (a0, 0, (⟨#[]⟩ : ByteArray))) = some (r1, r2, r3) := h
 clear h
 simp only [Option.some.injEq, Prod.mk.injEq] at H
 obtain ⟨rfl, rfl, rfl⟩ := H
 go_enter Try.func29, Try.ntmps29
 go_wp2_with (first | ((with_reducible refine gate_dst (N := 2) rfl ?_); refine box_event ?hg (N := 2) ?hd (cs := #[.int .i64 0, .int .i64 0, .string (⟨#[]⟩ : ByteArray)]) (t := 70) ?hr ?_; (case hd => rfl); (case hg => rfl); (case hr => first | (go_simp; done) | (go_simp; rfl)); intro gb305 hg w2 hbox hb; have BK305 := Aside0.mk (hbox); have GW305 := Aside0.mk ((by rw [hg]; exact below_sizeA : w.heap.size ≤ gb305)); have GE305 := GW305; replace HB := Aside0.mk (below_stepA hb); clear hb hbox hg; have hz3 := blk3 BK305.out))
 refine bodyPost_ret (results_cell_row rfl _ _ gb305 70 #[.int .i64 a0, .int .i64 0, .string (⟨#[]⟩ : ByteArray)] (0, 0) _ rfl (blk_move BK305.out) Try.underlying70 rfl (by kernel_rfl)) rfl ?_
 exact ⟨by first | rfl | (simp [errW_none, errW_some] <;> rfl) | (simp [*, errW_none, errW_some] <;> rfl), belowA⟩

end Go.Proofs.Yteoljddobfnfiaa.PB
end
section
namespace Go.Proofs.Yteoljddobfnfiaa.PB
open Go.RowKit Go.Proofs.YteoljddobfnfiaaW.PrintWords Go.Proofs.YteoljddobfnfiaaW.PrintLast Go.Proofs.YteoljddobfnfiaaW.PrintMore
attribute [local go_sem] max2_int min2_int max_two min_two max_three min_three max_four min_four
attribute [local go_sem ↓ high] Go.Proofs.Yteoljddobfnfiaa.My.ld44_eq Go.Proofs.Yteoljddobfnfiaa.My.st44_eq Go.Proofs.Yteoljddobfnfiaa.My.ld27_eq Go.Proofs.Yteoljddobfnfiaa.My.st27_eq Go.Proofs.Yteoljddobfnfiaa.My.ld37_eq Go.Proofs.Yteoljddobfnfiaa.My.st37_eq Go.Proofs.Yteoljddobfnfiaa.My.ld65_eq Go.Proofs.Yteoljddobfnfiaa.My.st65_eq
attribute [local go_sem high] Go.Proofs.Yteoljddobfnfiaa.My.ld44_run Go.Proofs.Yteoljddobfnfiaa.My.st44_run Go.Proofs.Yteoljddobfnfiaa.My.ld27_run Go.Proofs.Yteoljddobfnfiaa.My.st27_run Go.Proofs.Yteoljddobfnfiaa.My.ld37_run Go.Proofs.Yteoljddobfnfiaa.My.st37_run Go.Proofs.Yteoljddobfnfiaa.My.ld65_run Go.Proofs.Yteoljddobfnfiaa.My.st65_run
open Go.Proofs.Yteoljddobfnfiaa.My
attribute [local go_sem] cell_map run_store_fnV one_int one_bool one_string one_slice one_fnV
set_option linter.unusedVariables false
set_option linter.unusedSimpArgs false

mutual
def bounds_Witness.j0 : Nat → Int → Int → Bool → List (S95) → List (S44) → Option ((List (S55)))
  | 0, _, _, _, _, _ => none
  | k + 1, x1, x2, x29, x307000, x307001 => if x29 = true then (some ([] : List (S55))) else (if 0 ≤ x1 then (if x1 < (x307001.length : Int) then ((bounds_Bounded.f ((rd_T44 x307001 x1).f0) ((rd_T44 x307001 x1).f1) ((rd_T44 x307001 x1).f2) ((rd_T44 x307001 x1).f3) ((rd_T44 x307001 x1).f4) ((rd_T44 x307001 x1).f5) ((rd_T44 x307001 x1).f6) ((rd_T44 x307001 x1).f7) ((rd_T44 x307001 x1).f8) ((rd_T44 x307001 x1).f9) ((rd_T44 x307001 x1).f10) ((rd_T44 x307001 x1).f11) ((rd_T44 x307001 x1).f12) ((rd_T44 x307001 x1).f13) ((rd_T44 x307001 x1).f14) ((rd_T44 x307001 x1).f15)).bind fun t312 => (if t312 = true then (bounds_Witness.j1 k x2 true x307000 x307001 ((rd_T44 x307001 x1).f0) ((rd_T44 x307001 x1).f1) ((rd_T44 x307001 x1).f2) ((rd_T44 x307001 x1).f3) ((rd_T44 x307001 x1).f4) ((rd_T44 x307001 x1).f5) ((rd_T44 x307001 x1).f6) ((rd_T44 x307001 x1).f7) ((rd_T44 x307001 x1).f8) ((rd_T44 x307001 x1).f9) ((rd_T44 x307001 x1).f10) ((rd_T44 x307001 x1).f11) ((rd_T44 x307001 x1).f12) ((rd_T44 x307001 x1).f13) ((rd_T44 x307001 x1).f14) ((rd_T44 x307001 x1).f15)) else (bounds_Witness.j1 k x2 ((((rd_T44 x307001 x1).f1).length : Int) == 0) x307000 x307001 ((rd_T44 x307001 x1).f0) ((rd_T44 x307001 x1).f1) ((rd_T44 x307001 x1).f2) ((rd_T44 x307001 x1).f3) ((rd_T44 x307001 x1).f4) ((rd_T44 x307001 x1).f5) ((rd_T44 x307001 x1).f6) ((rd_T44 x307001 x1).f7) ((rd_T44 x307001 x1).f8) ((rd_T44 x307001 x1).f9) ((rd_T44 x307001 x1).f10) ((rd_T44 x307001 x1).f11) ((rd_T44 x307001 x1).f12) ((rd_T44 x307001 x1).f13) ((rd_T44 x307001 x1).f14) ((rd_T44 x307001 x1).f15)))) else (none)) else (none))
def bounds_Witness.j1 : Nat → Int → Bool → List (S95) → List (S44) → Int → List Int → ByteArray → Int → List (S93) → Int → Int → Int → List Int → List Int → Int → Int → Int → List (S97) → List (S99) → List (S50) → Option ((List (S55)))
  | 0, _, _, _, _, _, _, _, _, _, _, _, _, _, _, _, _, _, _, _, _ => none
  | k + 1, x2, x42, x307000, x307001, x312000, x312001, x312002, x312003, x312004, x312005, x312006, x312007, x312008, x312009, x312010, x312011, x312012, x312013, x312014, x312015 => if x42 = true then (some ([] : List (S55))) else (bounds_Witness.l0 k ([] : List (S55)) x2 0 x307000 x307001 x312000 x312001 x312002 x312003 x312004 x312005 x312006 x312007 x312008 x312009 x312010 x312011 x312012 x312013 x312014 x312015)
def bounds_Witness.l0 : Nat → List (S55) → Int → Int → List (S95) → List (S44) → Int → List Int → ByteArray → Int → List (S93) → Int → Int → Int → List Int → List Int → Int → Int → Int → List (S97) → List (S99) → List (S50) → Option ((List (S55)))
  | 0, _, _, _, _, _, _, _, _, _, _, _, _, _, _, _, _, _, _, _, _, _ => none
  | k + 1, x8, x43, x44, x307000, x307001, x312000, x312001, x312002, x312003, x312004, x312005, x312006, x312007, x312008, x312009, x312010, x312011, x312012, x312013, x312014, x312015 => if x44 < x43 then (if 0 < (x312001.length : Int) then (if 0 ≤ (rd x312001 0) then (if (rd x312001 0) < (x307001.length : Int) then (bounds_Witness.l1 k x8 x43 x44 ((rd_T44 x307001 (rd x312001 0)).f15) (((rd_T44 x307001 (rd x312001 0)).f15).length : Int) 0 x307000 x307001 x312000 x312001 x312002 x312003 x312004 x312005 x312006 x312007 x312008 x312009 x312010 x312011 x312012 x312013 x312014 x312015 (wrap64 (30001 * x44)) ([] : List (S70)) 1) else (none)) else (none)) else (none)) else (some x8)
def bounds_Witness.l1 : Nat → List (S55) → Int → Int → List (S50) → Int → Int → List (S95) → List (S44) → Int → List Int → ByteArray → Int → List (S93) → Int → Int → Int → List Int → List Int → Int → Int → Int → List (S97) → List (S99) → List (S50) → Int → List (S70) → Int → Option ((List (S55)))
  | 0, _, _, _, _, _, _, _, _, _, _, _, _, _, _, _, _, _, _, _, _, _, _, _, _, _, _, _ => none
  | k + 1, x8, x43, x44, x58, x59, x60, x307000, x307001, x312000, x312001, x312002, x312003, x312004, x312005, x312006, x312007, x312008, x312009, x312010, x312011, x312012, x312013, x312014, x312015, x314000, x314001, x314002 => if x60 < x59 then (if 0 ≤ x60 then (if x60 < (x58.length : Int) then ((bounds_within.f ((rd_T50 x58 x60).f1) 0 2).bind fun t321 => (if t321 = true then ((value_Zero.f ((rd_T50 x58 x60).f1)).bind fun bt322 => (if x314001.length < 4398046511104 then (bounds_Witness.l1 k x8 x43 x44 x58 x59 (wrap64 (x60 + 1)) x307000 x307001 x312000 x312001 x312002 x312003 x312004 x312005 x312006 x312007 x312008 x312009 x312010 x312011 x312012 x312013 x312014 x312015 x314000 (x314001 ++ [(⟨bt322.1, bt322.2.1, bt322.2.2⟩ : S70)]) x314002) else (none))) else (some ([] : List (S55))))) else (none)) else (none)) else (if x8.length < 3518437208883 then (bounds_Witness.l0 k (x8 ++ [(⟨x314000, x314001, x314002⟩ : S55)]) x43 (wrap64 (x44 + 1)) x307000 x307001 x312000 x312001 x312002 x312003 x312004 x312005 x312006 x312007 x312008 x312009 x312010 x312011 x312012 x312013 x312014 x312015) else (none))
end
def bounds_Witness.f (k : Nat) (l0_0 : List (S95)) (l0_1 : List (S44)) (a1 : Int) (a2 : Int) : Option ((List (S55))) := (bounds_Well.f k l0_0 l0_1).bind fun t307 => (if t307 = true then ((bounds_within.f a1 0 (wrap64 ((l0_1.length : Int) - 1))).bind fun t308 => (if t308 = true then ((bounds_within.f a2 1 1000).bind fun t309 => (bounds_Witness.j0 k a1 a2 (!t309) l0_0 l0_1)) else (bounds_Witness.j0 k a1 a2 true l0_0 l0_1))) else (bounds_Witness.j0 k a1 a2 true l0_0 l0_1))
def bounds_Witness.T11 : Bool × List (List Nat × List Nat) := (true, [([], []), ([0], [0]), ([], []), ([2], [2]), ([3], [3]), ([4], [4]), ([1, 5], [1, 5]), ([6], [6]), ([7], [7]), ([8], [8]), ([], [])])
def bounds_Witness.B11 : List Nat := [0, 1, 0, 4, 12, 28, 63, 127, 255, 511, 0]
theorem bounds_Witness.tab11 : rtab .any (opsOf Try.f13 11) = bounds_Witness.T11 := by kernel_rfl
theorem bounds_Witness.bits11 : waitsOk bounds_Witness.T11.2 bounds_Witness.B11 = true := by kernel_rfl
def bounds_Witness.T16 : Bool × List (List Nat × List Nat) := (true, [([], []), ([0], [0]), ([], []), ([2], [2]), ([3], [3]), ([4], [4]), ([1, 5, 4], [1, 5]), ([0, 1, 2, 3, 4, 5, 6], []), ([7, 6, 6, 0, 1, 2, 3, 4, 5, 6], [6, 7])])
def bounds_Witness.B16 : List Nat := [0, 1, 0, 4, 12, 28, 63, 127, 255]
theorem bounds_Witness.tab16 : rtab .any (opsOf Try.f13 16) = bounds_Witness.T16 := by kernel_rfl
theorem bounds_Witness.bits16 : waitsOk bounds_Witness.T16.2 bounds_Witness.B16 = true := by kernel_rfl
set_option maxHeartbeats 8000000 in
set_option maxRecDepth 100000 in
theorem bounds_Witness.calls (k : Nat) (A0_0 : Option Addr) (c0_0 : Nat) (l0_0 : List (S95)) (A0_1 : Option Addr) (c0_1 : Nat) (l0_1 : List (S44)) (a1 : Int) (a2 : Int) (r : List (S55)) (w : World) (hr0_0 : Kd.C k95 w A0_0 l0_0.length l0_0) (hc0_0 : l0_0.length ≤ c0_0) (hr0_1 : Kd.C k44 w A0_1 l0_1.length l0_1) (hc0_1 : l0_1.length ≤ c0_1) (h : bounds_Witness.f k l0_0 l0_1 a1 a2 = some r) :
    Calls Try.prog 13 #[.agg #[.slice A0_0 l0_0.length c0_0, .slice A0_1 l0_1.length c0_1], .int .i64 a1, .int .i64 a2] w fun e w' => ∃ v0_ : Value, e = .returned (v0_) ∧ Kd.S k55 55 w' w.heap.size (fun _ => True) v0_ r ∧ Below w.heap.size w w' := by
 have hu25 := Try.underlying25
 have hu44 := Try.underlying44
 have hu55 := Try.underlying55
 have hu50 := Try.underlying50
 have HR0_0 := Aside0.mk hr0_0
 have HC0_0 := Aside0.mk hc0_0
 clear hr0_0 hc0_0
 have HR0_1 := Aside0.mk hr0_1
 have HC0_1 := Aside0.mk hc0_1
 clear hr0_1 hc0_1
 have HB := Aside0.mk (Below.refl w.heap.size w)
 have H : ((bounds_Well.f k l0_0 l0_1).bind fun t307 => (if t307 = true then ((bounds_within.f a1 0 (wrap64 ((l0_1.length : Int) - 1))).bind fun t308 => (if t308 = true then ((bounds_within.f a2 1 1000).bind fun t309 => (bounds_Witness.j0 k a1 a2 (!t309) l0_0 l0_1)) else (bounds_Witness.j0 k a1 a2 true l0_0 l0_1))) else (bounds_Witness.j0 k a1 a2 true l0_0 l0_1))) = some r := h
 clear h
 have HC4 := Aside0.mk H
 clear H
 go_enter Try.func13, Try.ntmps13
 go_upto_region 1 with (first | ((with_reducible refine gate_dst (N := 3) rfl ?_); (try (refine gate_guard (by rfl) ?_; dsimp only)); refine box_event ?hg (N := 3) ?hd (cs := #[.slice A0_0 l0_0.length c0_0, .slice A0_1 l0_1.length c0_1]) (t := 25) ?hr ?_; (case hd => rfl); (case hg => rfl); (case hr => first | (go_simp; done) | (go_simp; rfl)); intro gb306 hg w5 hbox hb; have BK306 := Aside0.mk (hbox); have GW306 := Aside0.mk ((by rw [hg]; exact below_sizeA : w.heap.size ≤ gb306)); have GE306 := GW306; replace HB := Aside0.mk (below_stepA hb); clear hb hbox hg))
 (try simp only [Act.put, List.setIfInBounds_toArray, List.set_cons_zero, List.set_cons_succ])
 go_cut [29] (fun v29 wc => ∃ (kq : Nat) (x29_3 : Bool), v29 = .bool x29_3 ∧ Aside0 (bounds_Witness.j0 kq a1 a2 x29_3 l0_0 l0_1 = some r) ∧ Aside0 (kq ≤ k) ∧ Aside0 (wc.heap[gb306]? = some (.cells #[(.slice A0_0 l0_0.length c0_0), (.slice A0_1 l0_1.length c0_1)] 25 (0, 0))) ∧ Aside0 (Below w.heap.size w wc))
 case first =>
  have H := HC4.out
  clear HC4
  replace H := Option.bind_eq_some_iff.mp H
  obtain ⟨t307, A60, H⟩ := H
  try dsimp only at H
  have A6 := Aside0.mk A60
  clear A60
  by_cases c7 : t307 = true
  ·
   subst c7
   rw [if_pos rfl] at H
   replace H := Option.bind_eq_some_iff.mp H
   obtain ⟨t308, A80, H⟩ := H
   try dsimp only at H
   have A8 := Aside0.mk A80
   clear A80
   by_cases c9 : t308 = true
   ·
    subst c9
    rw [if_pos rfl] at H
    replace H := Option.bind_eq_some_iff.mp H
    obtain ⟨t309, A100, H⟩ := H
    try dsimp only at H
    have A10 := Aside0.mk A100
    clear A100
    have H' := Aside0.mk H
    clear H
    have hz11 := blk2 BK306.out
    go_wp2_with (first | ((with_reducible refine gate_callee (f := 21) rfl ?_); refine goesL_ (some 14) rfl rfl Try.func21 (by kernel_rfl) rfl #[.agg #[.slice A0_0 l0_0.length c0_0, .slice A0_1 l0_1.length c0_1]] rfl mapA ?_; (with_reducible refine (bounds_Well.calls k _ _ l0_0 _ _ l0_1 true _ (c_belowA HR0_0.out) HC0_0.out (c_belowA HR0_1.out) HC0_1.out A6.out).mono ?_); rintro e w12 ⟨rfl, hb⟩; refine ⟨_, rfl, ?_⟩; replace BK306 := Aside0.mk (blk_keepA BK306.out hb); replace HB := Aside0.mk (below_stepA hb); (try clear hb); have hz13 := blk2 BK306.out) | (go_at_call 28; (with_reducible refine (bounds_within.calls a1 0 (wrap64 ((l0_1.length : Int) - 1)) true _ A8.out).mono ?_); rintro e w' ⟨rfl, ⟨nd, rfl⟩⟩) | (go_at_call 28; (with_reducible refine (bounds_within.calls a2 1 1000 t309 _ A10.out).mono ?_); rintro e w' ⟨rfl, ⟨nd, rfl⟩⟩))
    go_meet
    case rel => exact ⟨_, (!t309), (by first | rfl | (simp; done) | (simp [*]; done)), H', ⟨by first | omega | exact Nat.le_refl _⟩, ⟨blk_move BK306.out⟩, ⟨by repeat (first | (with_reducible first | exact HB.out | apply below_alloc | apply pw_below_drewN | apply below_drew1 | refine below_set ?_ GE306.out) | exact HB.out)⟩⟩
   ·
    replace c9 := Bool.eq_false_iff.mpr c9
    subst c9
    rw [if_neg (show ¬ (false = true) by decide)] at H
    have H' := Aside0.mk H
    clear H
    have hz14 := blk2 BK306.out
    go_wp2_with (first | ((with_reducible refine gate_callee (f := 21) rfl ?_); refine goesL_ (some 14) rfl rfl Try.func21 (by kernel_rfl) rfl #[.agg #[.slice A0_0 l0_0.length c0_0, .slice A0_1 l0_1.length c0_1]] rfl mapA ?_; (with_reducible refine (bounds_Well.calls k _ _ l0_0 _ _ l0_1 true _ (c_belowA HR0_0.out) HC0_0.out (c_belowA HR0_1.out) HC0_1.out A6.out).mono ?_); rintro e w15 ⟨rfl, hb⟩; refine ⟨_, rfl, ?_⟩; replace BK306 := Aside0.mk (blk_keepA BK306.out hb); replace HB := Aside0.mk (below_stepA hb); (try clear hb); have hz16 := blk2 BK306.out) | (go_at_call 28; (with_reducible refine (bounds_within.calls a1 0 (wrap64 ((l0_1.length : Int) - 1)) false _ A8.out).mono ?_); rintro e w' ⟨rfl, ⟨nd, rfl⟩⟩))
    go_meet
    case rel => exact ⟨_, (true), (by first | rfl | (simp; done) | (simp [*]; done)), H', ⟨by first | omega | exact Nat.le_refl _⟩, ⟨blk_move BK306.out⟩, ⟨by repeat (first | (with_reducible first | exact HB.out | apply below_alloc | apply pw_below_drewN | apply below_drew1 | refine below_set ?_ GE306.out) | exact HB.out)⟩⟩
  ·
   replace c7 := Bool.eq_false_iff.mpr c7
   subst c7
   rw [if_neg (show ¬ (false = true) by decide)] at H
   have H' := Aside0.mk H
   clear H
   have hz17 := blk2 BK306.out
   go_wp2_with (first | ((with_reducible refine gate_callee (f := 21) rfl ?_); refine goesL_ (some 14) rfl rfl Try.func21 (by kernel_rfl) rfl #[.agg #[.slice A0_0 l0_0.length c0_0, .slice A0_1 l0_1.length c0_1]] rfl mapA ?_; (with_reducible refine (bounds_Well.calls k _ _ l0_0 _ _ l0_1 false _ (c_belowA HR0_0.out) HC0_0.out (c_belowA HR0_1.out) HC0_1.out A6.out).mono ?_); rintro e w18 ⟨rfl, hb⟩; refine ⟨_, rfl, ?_⟩; replace BK306 := Aside0.mk (blk_keepA BK306.out hb); replace HB := Aside0.mk (below_stepA hb); (try clear hb)))
   go_meet
   case rel => exact ⟨_, (true), (by first | rfl | (simp; done) | (simp [*]; done)), H', ⟨by first | omega | exact Nat.le_refl _⟩, ⟨blk_move BK306.out⟩, ⟨by repeat (first | (with_reducible first | exact HB.out | apply below_alloc | apply pw_below_drewN | apply below_drew1 | refine below_set ?_ GE306.out) | exact HB.out)⟩⟩
 case rest =>
  clear HC4
  try clear c1
  try clear c2
  try clear p2
  try clear p6
  try clear c7
  try clear c9
  try clear c13
  try clear hz11
  try clear hz13
  try clear hz14
  try clear hz16
  try clear hz17
  obtain ⟨kq, x29_3, rfl, HA, HJ3, BK306, HB⟩ := hcut
  cases kq with
  | zero => exact absurd HA.out (by simp [bounds_Witness.j0])
  | succ kj3 =>
   have H := HA.out
   clear HA
   simp only [bounds_Witness.j0] at H
   by_cases c19 : x29_3 = true
   ·
    subst c19
    rw [if_pos rfl] at H
    obtain rfl := Option.some.inj H
    go_wp2
    go_ret
    exact ⟨_, by first | rfl | (simp [errW_none, errW_some] <;> rfl) | (simp [*, errW_none, errW_some] <;> rfl), by first | exact Kd.S_nil _ _ _ _ _ | exact Kd.N_nil _ _ _ _ _ | exact Kd.V_nil _ _ _ _ _ | exact Kd.Q_nil _ _ _ _ _ | exact Kd.R_nil _ _ _ _ _, belowA⟩
   ·
    replace c19 := Bool.eq_false_iff.mpr c19
    subst c19
    rw [if_neg (show ¬ (false = true) by decide)] at H
    by_cases c20 : 0 ≤ a1
    case neg => rw [if_neg c20] at H; exact absurd H (by simp)
    rw [if_pos c20] at H
    have c20b0 : decide (0 ≤ a1) = true := decide_eq_true c20
    clear c20
    by_cases c21 : a1 < (l0_1.length : Int)
    case neg => rw [if_neg c21] at H; exact absurd H (by simp)
    rw [if_pos c21] at H
    have c21b0 : decide (a1 < (l0_1.length : Int)) = true := decide_eq_true c21
    clear c21
    have HC22 := Aside0.mk H
    clear H
    have hz23 := blk2 BK306.out
    have p310 : 0 ≤ (a1 : Int) := odA
    have q310 : a1 < (l0_1.length : Int) := odA
    obtain ⟨ad310, A310_1, c310_1, A310_4, c310_4, A310_8, c310_8, A310_9, c310_9, A310_13, c310_13, A310_14, c310_14, A310_15, c310_15, e310, hx310_0, hx310_1, hx310_2, hx310_3, hx310_4, hx310_5, hx310_6, hx310_7, hx310_8, hx310_9, hx310_10, hx310_11, hx310_12, hx310_13, hx310_14, hx310_15, hl310_1, hi310_1, hl310_4, hi310_4, hl310_8, hi310_8, hl310_9, hi310_9, hl310_13, hi310_13, hl310_14, hi310_14, hl310_15, hi310_15⟩ := at_T44 HR0_1.out a1 p310 q310
    cases e310
    replace hx310_0 := pw_cell_below HB.out hx310_0
    replace hx310_1 := pw_cell_below HB.out hx310_1
    replace hx310_2 := pw_cell_below HB.out hx310_2
    replace hx310_3 := pw_cell_below HB.out hx310_3
    replace hx310_4 := pw_cell_below HB.out hx310_4
    replace hx310_5 := pw_cell_below HB.out hx310_5
    replace hx310_6 := pw_cell_below HB.out hx310_6
    replace hx310_7 := pw_cell_below HB.out hx310_7
    replace hx310_8 := pw_cell_below HB.out hx310_8
    replace hx310_9 := pw_cell_below HB.out hx310_9
    replace hx310_10 := pw_cell_below HB.out hx310_10
    replace hx310_11 := pw_cell_below HB.out hx310_11
    replace hx310_12 := pw_cell_below HB.out hx310_12
    replace hx310_13 := pw_cell_below HB.out hx310_13
    replace hx310_14 := pw_cell_below HB.out hx310_14
    replace hx310_15 := pw_cell_below HB.out hx310_15
    have HR310_1 := Aside0.mk hi310_1
    have HC310_1 := Aside0.mk hl310_1
    clear hi310_1 hl310_1
    have HR310_4 := Aside0.mk hi310_4
    have HC310_4 := Aside0.mk hl310_4
    clear hi310_4 hl310_4
    have HR310_8 := Aside0.mk hi310_8
    have HC310_8 := Aside0.mk hl310_8
    clear hi310_8 hl310_8
    have HR310_9 := Aside0.mk hi310_9
    have HC310_9 := Aside0.mk hl310_9
    clear hi310_9 hl310_9
    have HR310_13 := Aside0.mk hi310_13
    have HC310_13 := Aside0.mk hl310_13
    clear hi310_13 hl310_13
    have HR310_14 := Aside0.mk hi310_14
    have HC310_14 := Aside0.mk hl310_14
    clear hi310_14 hl310_14
    have HR310_15 := Aside0.mk hi310_15
    have HC310_15 := Aside0.mk hl310_15
    clear hi310_15 hl310_15
    replace p310 := eq_true p310
    replace q310 := eq_true q310
    go_upto_region 4 with (first | ((with_reducible refine gate_dst (N := 7) rfl ?_); (try (refine gate_guard (by rfl) ?_; dsimp only)); refine box_event ?hg (N := 7) ?hd (cs := #[.int .i64 0, .slice none 0 0, .string (⟨#[]⟩ : ByteArray), .int .i64 0, .slice none 0 0, .int .i64 0, .int .i64 0, .int .i64 0, .slice none 0 0, .slice none 0 0, .int .i64 0, .int .i64 0, .int .i64 0, .slice none 0 0, .slice none 0 0, .slice none 0 0]) (t := 44) ?hr ?_; (case hd => rfl); (case hg => rfl); (case hr => first | (go_simp; done) | (go_simp; rfl)); intro gb311 hg w24 hbox hb; have BK311 := Aside0.mk (hbox); have GW311 := Aside0.mk ((by rw [hg]; exact below_sizeA : w.heap.size ≤ gb311)); have GE311 := GW311; have NB306_311 := Aside0.mk ((by rw [hg]; exact Nat.ne_of_lt (blk_ltKA BK306.out) : gb306 ≠ gb311)); have NB311_306 := Aside0.mk NB306_311.out.symm; replace BK306 := Aside0.mk (blk_keepA BK306.out hb); replace HB := Aside0.mk (below_stepA hb); clear hb hbox hg; have hnb25 := NB311_306.out; have hnc25 := NB306_311.out; have hz26 := blk16 BK311.out))
    (try simp only [Act.put, List.setIfInBounds_toArray, List.set_cons_zero, List.set_cons_succ])
    go_cut [42] (fun v42 wc => ∃ (kq : Nat) (x42_21 : Bool), v42 = .bool x42_21 ∧ Aside0 (bounds_Witness.j1 kq a2 x42_21 l0_0 l0_1 ((rd_T44 l0_1 a1).f0) ((rd_T44 l0_1 a1).f1) ((rd_T44 l0_1 a1).f2) ((rd_T44 l0_1 a1).f3) ((rd_T44 l0_1 a1).f4) ((rd_T44 l0_1 a1).f5) ((rd_T44 l0_1 a1).f6) ((rd_T44 l0_1 a1).f7) ((rd_T44 l0_1 a1).f8) ((rd_T44 l0_1 a1).f9) ((rd_T44 l0_1 a1).f10) ((rd_T44 l0_1 a1).f11) ((rd_T44 l0_1 a1).f12) ((rd_T44 l0_1 a1).f13) ((rd_T44 l0_1 a1).f14) ((rd_T44 l0_1 a1).f15) = some r) ∧ Aside0 (kq ≤ kj3) ∧ Aside0 (wc.heap[gb306]? = some (.cells #[(.slice A0_0 l0_0.length c0_0), (.slice (some ad310) l0_1.length c0_1)] 25 (0, 0))) ∧ Aside0 (wc.heap[gb311]? = some (.cells #[.int .i64 ((rd_T44 l0_1 a1).f0), (.slice A310_1 ((rd_T44 l0_1 a1).f1).length c310_1), .string ((rd_T44 l0_1 a1).f2), .int .i64 ((rd_T44 l0_1 a1).f3), (.slice A310_4 ((rd_T44 l0_1 a1).f4).length c310_4), .int .i64 ((rd_T44 l0_1 a1).f5), .int .i64 ((rd_T44 l0_1 a1).f6), .int .i64 ((rd_T44 l0_1 a1).f7), (.slice A310_8 ((rd_T44 l0_1 a1).f8).length c310_8), (.slice A310_9 ((rd_T44 l0_1 a1).f9).length c310_9), .int .i64 ((rd_T44 l0_1 a1).f10), .int .i64 ((rd_T44 l0_1 a1).f11), .int .i64 ((rd_T44 l0_1 a1).f12), (.slice A310_13 ((rd_T44 l0_1 a1).f13).length c310_13), (.slice A310_14 ((rd_T44 l0_1 a1).f14).length c310_14), (.slice A310_15 ((rd_T44 l0_1 a1).f15).length c310_15)] 44 (0, 0))) ∧ Aside0 (Below w.heap.size w wc))
    case first =>
     have H := HC22.out
     clear HC22
     replace H := Option.bind_eq_some_iff.mp H
     obtain ⟨t312, A270, H⟩ := H
     try dsimp only at H
     have A27 := Aside0.mk A270
     clear A270
     by_cases c28 : t312 = true
     ·
      subst c28
      rw [if_pos rfl] at H
      have H' := Aside0.mk H
      clear H
      have hnb29 := NB311_306.out
      have hnc29 := NB306_311.out
      have hz30 := blk16 BK311.out
      go_wp2_with (first | ((with_reducible refine gate_callee (f := 12) rfl ?_); refine goesL_ (some 36) rfl rfl Try.func12 (by kernel_rfl) rfl #[.agg (A44 (rd_T44 l0_1 a1) A310_1 c310_1 A310_4 c310_4 A310_8 c310_8 A310_9 c310_9 A310_13 c310_13 A310_14 c310_14 A310_15 c310_15)] rfl mapA ?_; (with_reducible refine (bounds_Bounded.calls _ _ _ _ _ _ _ _ _ _ _ _ _ _ _ _ _ _ _ _ _ _ _ _ _ _ _ _ _ _ true _ (c_belowB HR310_1.out) HC310_1.out (c_belowB HR310_4.out) HC310_4.out (c_belowB HR310_8.out) HC310_8.out (c_belowB HR310_9.out) HC310_9.out (c_belowB HR310_13.out) HC310_13.out (c_belowB HR310_14.out) HC310_14.out (c_belowB HR310_15.out) HC310_15.out A27.out).mono ?_); rintro e w31 ⟨rfl, hb⟩; refine ⟨_, rfl, ?_⟩; replace BK306 := Aside0.mk (blk_keepA BK306.out hb); replace BK311 := Aside0.mk (blk_below (g := gb311) (o := .cells (A44 (rd_T44 l0_1 a1) A310_1 c310_1 A310_4 c310_4 A310_8 c310_8 A310_9 c310_9 A310_13 c310_13 A310_14 c310_14 A310_15 c310_15) 44 (0, 0)) (blk_move BK311.out) hb); replace HB := Aside0.mk (below_stepA hb); (try clear hb)))
      go_meet
      case rel => exact ⟨_, (true), (by first | rfl | (simp; done) | (simp [*]; done)), H', ⟨by have := HJ3.out; first | omega | exact Nat.le_refl _⟩, ⟨blk_move BK306.out⟩, ⟨blk_move BK311.out⟩, ⟨by repeat (first | (with_reducible first | exact HB.out | apply below_alloc | apply pw_below_drewN | apply below_drew1 | refine below_set ?_ GE306.out | refine below_set ?_ GE311.out) | exact HB.out)⟩⟩
     ·
      replace c28 := Bool.eq_false_iff.mpr c28
      subst c28
      rw [if_neg (show ¬ (false = true) by decide)] at H
      have H' := Aside0.mk H
      clear H
      have hnb32 := NB311_306.out
      have hnc32 := NB306_311.out
      have hz33 := blk16 BK311.out
      go_wp2_with (first | ((with_reducible refine gate_callee (f := 12) rfl ?_); refine goesL_ (some 36) rfl rfl Try.func12 (by kernel_rfl) rfl #[.agg (A44 (rd_T44 l0_1 a1) A310_1 c310_1 A310_4 c310_4 A310_8 c310_8 A310_9 c310_9 A310_13 c310_13 A310_14 c310_14 A310_15 c310_15)] rfl mapA ?_; (with_reducible refine (bounds_Bounded.calls _ _ _ _ _ _ _ _ _ _ _ _ _ _ _ _ _ _ _ _ _ _ _ _ _ _ _ _ _ _ false _ (c_belowB HR310_1.out) HC310_1.out (c_belowB HR310_4.out) HC310_4.out (c_belowB HR310_8.out) HC310_8.out (c_belowB HR310_9.out) HC310_9.out (c_belowB HR310_13.out) HC310_13.out (c_belowB HR310_14.out) HC310_14.out (c_belowB HR310_15.out) HC310_15.out A27.out).mono ?_); rintro e w34 ⟨rfl, hb⟩; refine ⟨_, rfl, ?_⟩; replace BK306 := Aside0.mk (blk_keepA BK306.out hb); replace BK311 := Aside0.mk (blk_below (g := gb311) (o := .cells (A44 (rd_T44 l0_1 a1) A310_1 c310_1 A310_4 c310_4 A310_8 c310_8 A310_9 c310_9 A310_13 c310_13 A310_14 c310_14 A310_15 c310_15) 44 (0, 0)) (blk_move BK311.out) hb); replace HB := Aside0.mk (below_stepA hb); (try clear hb); have hz35 := blk16 BK311.out))
      go_meet
      case rel => exact ⟨_, (((((rd_T44 l0_1 a1).f1).length : Int) == 0)), (by first | rfl | (simp; done) | (simp [*]; done)), H', ⟨by have := HJ3.out; first | omega | exact Nat.le_refl _⟩, ⟨blk_move BK306.out⟩, ⟨blk_move BK311.out⟩, ⟨by repeat (first | (with_reducible first | exact HB.out | apply below_alloc | apply pw_below_drewN | apply below_drew1 | refine below_set ?_ GE306.out | refine below_set ?_ GE311.out) | exact HB.out)⟩⟩
    case rest =>
     clear HC22
     try clear c1
     try clear c2
     try clear p2
     try clear c3
     try clear p3
     try clear q3
     try clear hx3
     try clear p6
     try clear c7
     try clear c9
     try clear c12
     try clear c13
     try clear c19
     try clear c20
     try clear c20b0
     try clear c21
     try clear c21b0
     try clear c25
     try clear c28
     try clear c29
     try clear c31
     try clear p31
     try clear q31
     try clear hx31
     try clear c32
     try clear hz11
     try clear hz13
     try clear hz14
     try clear hz16
     try clear hz17
     try clear hz23
     try clear hz26
     try clear hz30
     try clear hz33
     try clear hz35
     try clear hx310_0
     try clear hx310_1
     try clear hx310_10
     try clear hx310_11
     try clear hx310_12
     try clear hx310_13
     try clear hx310_14
     try clear hx310_15
     try clear hx310_2
     try clear hx310_3
     try clear hx310_4
     try clear hx310_5
     try clear hx310_6
     try clear hx310_7
     try clear hx310_8
     try clear hx310_9
     try clear p2
     try clear p310
     try clear p6
     try clear q310
     obtain ⟨kq, x42_21, rfl, HA, HJ21, BK306, BK311, HB⟩ := hcut
     cases kq with
     | zero => exact absurd HA.out (by simp [bounds_Witness.j1])
     | succ kj21 =>
      have H := HA.out
      clear HA
      simp only [bounds_Witness.j1] at H
      by_cases c36 : x42_21 = true
      ·
       subst c36
       rw [if_pos rfl] at H
       obtain rfl := Option.some.inj H
       go_wp2
       go_ret
       exact ⟨_, by first | rfl | (simp [errW_none, errW_some] <;> rfl) | (simp [*, errW_none, errW_some] <;> rfl), by first | exact Kd.S_nil _ _ _ _ _ | exact Kd.N_nil _ _ _ _ _ | exact Kd.V_nil _ _ _ _ _ | exact Kd.Q_nil _ _ _ _ _ | exact Kd.R_nil _ _ _ _ _, belowA⟩
      ·
       replace c36 := Bool.eq_false_iff.mpr c36
       subst c36
       rw [if_neg (show ¬ (false = true) by decide)] at H
       have H' := Aside0.mk H
       clear H
       go_wp2
       go_loopg [8, 44] kj21 (fun kq v8 v44 w' => ∃ (x8_3 : List (S55)) (x44_3 : Int), v44 = .int .i64 x44_3 ∧ Aside0 (bounds_Witness.l0 kq x8_3 a2 x44_3 l0_0 l0_1 ((rd_T44 l0_1 a1).f0) ((rd_T44 l0_1 a1).f1) ((rd_T44 l0_1 a1).f2) ((rd_T44 l0_1 a1).f3) ((rd_T44 l0_1 a1).f4) ((rd_T44 l0_1 a1).f5) ((rd_T44 l0_1 a1).f6) ((rd_T44 l0_1 a1).f7) ((rd_T44 l0_1 a1).f8) ((rd_T44 l0_1 a1).f9) ((rd_T44 l0_1 a1).f10) ((rd_T44 l0_1 a1).f11) ((rd_T44 l0_1 a1).f12) ((rd_T44 l0_1 a1).f13) ((rd_T44 l0_1 a1).f14) ((rd_T44 l0_1 a1).f15) = some r) ∧ Aside0 (kq ≤ kj21) ∧ Aside0 (Kd.S k55 55 w' w.heap.size (fun _ => True) v8 x8_3) ∧ Aside0 (w'.heap[gb306]? = some (.cells #[(.slice A0_0 l0_0.length c0_0), (.slice (some ad310) l0_1.length c0_1)] 25 (0, 0))) ∧ Aside0 (w'.heap[gb311]? = some (.cells #[.int .i64 ((rd_T44 l0_1 a1).f0), (.slice A310_1 ((rd_T44 l0_1 a1).f1).length c310_1), .string ((rd_T44 l0_1 a1).f2), .int .i64 ((rd_T44 l0_1 a1).f3), (.slice A310_4 ((rd_T44 l0_1 a1).f4).length c310_4), .int .i64 ((rd_T44 l0_1 a1).f5), .int .i64 ((rd_T44 l0_1 a1).f6), .int .i64 ((rd_T44 l0_1 a1).f7), (.slice A310_8 ((rd_T44 l0_1 a1).f8).length c310_8), (.slice A310_9 ((rd_T44 l0_1 a1).f9).length c310_9), .int .i64 ((rd_T44 l0_1 a1).f10), .int .i64 ((rd_T44 l0_1 a1).f11), .int .i64 ((rd_T44 l0_1 a1).f12), (.slice A310_13 ((rd_T44 l0_1 a1).f13).length c310_13), (.slice A310_14 ((rd_T44 l0_1 a1).f14).length c310_14), (.slice A310_15 ((rd_T44 l0_1 a1).f15).length c310_15)] 44 (0, 0))) ∧ Aside0 (Below w.heap.size w w'))
       case atStart => exact ⟨(([] : List (S55))), (0), (by first | rfl | (simp; done) | (simp [*]; done)), H', ⟨Nat.le_refl _⟩, ⟨by first | exact Kd.S_nil _ _ _ _ _ | exact Kd.N_nil _ _ _ _ _ | exact Kd.V_nil _ _ _ _ _ | exact Kd.Q_nil _ _ _ _ _ | exact Kd.R_nil _ _ _ _ _⟩, ⟨blk_move BK306.out⟩, ⟨blk_move BK311.out⟩, ⟨by repeat (first | (with_reducible first | exact HB.out | apply below_alloc | apply pw_below_drewN | apply below_drew1 | refine below_set ?_ GE306.out | refine below_set ?_ GE311.out) | exact HB.out)⟩⟩
       case round =>
        clear H'
        try clear c1
        try clear c2
        try clear p2
        try clear c3
        try clear p3
        try clear q3
        try clear hx3
        try clear p6
        try clear c7
        try clear c9
        try clear c12
        try clear c13
        try clear c19
        try clear c20
        try clear c20b0
        try clear c21
        try clear c21b0
        try clear c25
        try clear c28
        try clear c29
        try clear c31
        try clear p31
        try clear q31
        try clear hx31
        try clear c32
        try clear c36
        try clear hz11
        try clear hz13
        try clear hz14
        try clear hz16
        try clear hz17
        try clear hz23
        try clear hz26
        try clear hz30
        try clear hz33
        try clear hz35
        try clear hx310_0
        try clear hx310_1
        try clear hx310_10
        try clear hx310_11
        try clear hx310_12
        try clear hx310_13
        try clear hx310_14
        try clear hx310_15
        try clear hx310_2
        try clear hx310_3
        try clear hx310_4
        try clear hx310_5
        try clear hx310_6
        try clear hx310_7
        try clear hx310_8
        try clear hx310_9
        try clear p2
        try clear p3
        try clear p31
        try clear p310
        try clear p6
        try clear q3
        try clear q31
        try clear q310
        obtain ⟨x8_3, x44_3, rfl, HA, HK3, HO_8, BK306, BK311, HB⟩ := hrel
        cases gk with
        | zero => exact absurd HA.out (by simp [bounds_Witness.l0])
        | succ k3 =>
         have H := HA.out
         clear HA
         simp only [bounds_Witness.l0] at H
         by_cases c37 : x44_3 < a2
         ·
          rw [if_pos c37] at H
          have c37b0 : decide (x44_3 < a2) = true := decide_eq_true c37
          clear c37
          by_cases c38 : 0 < (((rd_T44 l0_1 a1).f1).length : Int)
          case neg => rw [if_neg c38] at H; exact absurd H (by simp)
          rw [if_pos c38] at H
          have c38b0 : decide (0 < (((rd_T44 l0_1 a1).f1).length : Int)) = true := decide_eq_true c38
          have c38b1 : decide (0 < ((rd_T44 l0_1 a1).f1).length) = true := decide_eq_true (by omega)
          clear c38
          by_cases c39 : 0 ≤ (rd ((rd_T44 l0_1 a1).f1) 0)
          case neg => rw [if_neg c39] at H; exact absurd H (by simp)
          rw [if_pos c39] at H
          have c39b0 : decide (0 ≤ (rd ((rd_T44 l0_1 a1).f1) 0)) = true := decide_eq_true c39
          clear c39
          by_cases c40 : (rd ((rd_T44 l0_1 a1).f1) 0) < (l0_1.length : Int)
          case neg => rw [if_neg c40] at H; exact absurd H (by simp)
          rw [if_pos c40] at H
          have c40b0 : decide ((rd ((rd_T44 l0_1 a1).f1) 0) < (l0_1.length : Int)) = true := decide_eq_true c40
          clear c40
          have H' := Aside0.mk H
          clear H
          try go_wp2_with (first | ((with_reducible refine gate_dst (N := 10) rfl ?_); (try (refine gate_guard (by rfl) ?_; dsimp only)); refine box_event ?hg (N := 10) ?hd (cs := #[.int .i64 0, .slice none 0 0, .int .i64 0]) (t := 55) ?hr ?_; (case hd => rfl); (case hg => rfl); (case hr => first | (go_simp; done) | (go_simp; rfl)); intro gb313 hg w41 hbox hb; have BK313 := Aside0.mk (hbox); have GW313 := Aside0.mk ((by rw [hg]; exact below_sizeA : w.heap.size ≤ gb313)); have GE313 := GW313; have NB306_313 := Aside0.mk ((by rw [hg]; exact Nat.ne_of_lt (blk_ltKA BK306.out) : gb306 ≠ gb313)); have NB313_306 := Aside0.mk NB306_313.out.symm; have NB311_313 := Aside0.mk ((by rw [hg]; exact Nat.ne_of_lt (blk_ltKA BK311.out) : gb311 ≠ gb313)); have NB313_311 := Aside0.mk NB311_313.out.symm; replace HO_8 := Aside0.mk (Kd.S_below (Kd.S_elderB (by (with_reducible repeat (first | apply Kd.S_alloc | apply Kd.S_drewN | apply Kd.S_drew)); exact HO_8.out) gb313 (Nat.le_of_eq hg.symm)) hb); replace BK306 := Aside0.mk (blk_keepA BK306.out hb); replace BK311 := Aside0.mk (blk_keepA BK311.out hb); replace HB := Aside0.mk (below_stepA hb); clear hb hbox hg; have hnb42 := NB313_306.out; have hnc42 := NB306_313.out; have hnb43 := NB313_311.out; have hnc43 := NB311_313.out; have hz44 := blk3 BK313.out))
          have n0_ : Aside0 (Kd.S k55 55 (((w41.setCell ⟨gb313, 0, none⟩ (.int .i64 (wrap64 (30001 * x44_3)))).setCell ⟨gb313, 1, none⟩ (.slice none 0 0)).setCell ⟨gb313, 2, none⟩ (.int .i64 1)) w.heap.size (fun k_ => k_ ≠ gb313) u8 x8_3) := ⟨by (with_reducible repeat (first | apply Kd.S_alloc | apply Kd.S_drewN | apply Kd.S_drew)); exact Kd.S_mono (Kd.S_far (p := ⟨gb313, 2, none⟩) (Kd.S_far (p := ⟨gb313, 1, none⟩) (Kd.S_far (p := ⟨gb313, 0, none⟩) (Kd.S_mono HO_8.out (fun k_ hk => (⟨hk, hk.2⟩ : _ ∧ k_ ≠ gb313))) (fun _ hk => hk.2) (.int .i64 (wrap64 (30001 * x44_3)))) (fun _ hk => hk.2) (.slice none 0 0)) (fun _ hk => hk.2) (.int .i64 1)) (fun _ hk => hk.1.2)⟩
          have n1_ : Aside0 ((((w41.setCell ⟨gb313, 0, none⟩ (.int .i64 (wrap64 (30001 * x44_3)))).setCell ⟨gb313, 1, none⟩ (.slice none 0 0)).setCell ⟨gb313, 2, none⟩ (.int .i64 1)).heap[gb306]? = some (.cells #[.slice A0_0 l0_0.length c0_0, .slice (some ad310) l0_1.length c0_1] 25 (0, 0))) := ⟨blk_move BK306.out⟩
          have n2_ : Aside0 ((((w41.setCell ⟨gb313, 0, none⟩ (.int .i64 (wrap64 (30001 * x44_3)))).setCell ⟨gb313, 1, none⟩ (.slice none 0 0)).setCell ⟨gb313, 2, none⟩ (.int .i64 1)).heap[gb311]? = some (.cells (A44 (rd_T44 l0_1 a1) A310_1 c310_1 A310_4 c310_4 A310_8 c310_8 A310_9 c310_9 A310_13 c310_13 A310_14 c310_14 A310_15 c310_15) 44 (0, 0))) := ⟨blk_move BK311.out⟩
          have n3_ : Aside0 ((((w41.setCell ⟨gb313, 0, none⟩ (.int .i64 (wrap64 (30001 * x44_3)))).setCell ⟨gb313, 1, none⟩ (.slice none 0 0)).setCell ⟨gb313, 2, none⟩ (.int .i64 1)).heap[gb313]? = some (.cells #[.int .i64 (wrap64 (30001 * x44_3)), .slice none 0 0, .int .i64 1] 55 (0, 0))) := ⟨blk_move BK313.out⟩
          have n4_ : Aside0 (Below w.heap.size w (((w41.setCell ⟨gb313, 0, none⟩ (.int .i64 (wrap64 (30001 * x44_3)))).setCell ⟨gb313, 1, none⟩ (.slice none 0 0)).setCell ⟨gb313, 2, none⟩ (.int .i64 1))) := ⟨by repeat (first | (with_reducible first | exact HB.out | apply below_alloc | apply pw_below_drewN | apply below_drew1 | refine below_set ?_ GE306.out | refine below_set ?_ GE311.out | refine below_set ?_ GE313.out) | exact HB.out)⟩
          (try clear HO_8)
          (try clear BK306)
          (try clear BK311)
          (try clear BK313)
          (try clear HB)
          generalize (((w41.setCell ⟨gb313, 0, none⟩ (.int .i64 (wrap64 (30001 * x44_3)))).setCell ⟨gb313, 1, none⟩ (.slice none 0 0)).setCell ⟨gb313, 2, none⟩ (.int .i64 1)) = w45 at n0_ n1_ n2_ n3_ n4_ ⊢
          have HO_8 := n0_
          have BK306 := n1_
          have BK311 := n2_
          have BK313 := n3_
          have HB := n4_
          clear n0_ n1_ n2_ n3_ n4_
          have n0_ := Aside0.mk (Kd.S_drew HO_8.out)
          have n1_ := Aside0.mk (blk_drew BK306.out)
          have n2_ := Aside0.mk (blk_drew BK311.out)
          have n3_ := Aside0.mk (blk_drew BK313.out)
          have n4_ := Aside0.mk (below_drew1 HB.out)
          clear HO_8
          clear BK306
          clear BK311
          clear BK313
          clear HB
          have HO_8 := n0_
          have BK306 := n1_
          have BK311 := n2_
          have BK313 := n3_
          have HB := n4_
          clear n0_ n1_ n2_ n3_ n4_
          have p314 : 0 ≤ (0 : Int) := (by omega)
          have q314 : 0 < (((rd_T44 l0_1 a1).f1).length : Int) := odA
          obtain ⟨ad314, e314, hx314_0⟩ := Kd.at_int HR310_1.out 0 p314 q314
          have hw314_0 := hx314_0
          (try rw [show ((0 : Int)).toNat = 0 from rfl] at hw314_0)
          (try rw [show 0 * 1 = 0 from rfl] at hw314_0)
          (try rw [Addr.add_zero'] at hw314_0)
          cases e314
          have qi314 : (0 < ((rd_T44 l0_1 a1).f1).length) = True := eq_true (by omega)
          (try rw [show ((0 : Int)).toNat = 0 from rfl] at hx314_0)
          (try rw [Addr.add_zero'] at hx314_0)
          replace hx314_0 := pw_cell_below HB.out hx314_0
          replace p314 := eq_true p314
          replace q314 := eq_true q314
          have p315 : 0 ≤ ((rd ((rd_T44 l0_1 a1).f1) 0) : Int) := odA
          have q315 : (rd ((rd_T44 l0_1 a1).f1) 0) < (l0_1.length : Int) := odA
          obtain ⟨ad315, A315_1, c315_1, A315_4, c315_4, A315_8, c315_8, A315_9, c315_9, A315_13, c315_13, A315_14, c315_14, A315_15, c315_15, e315, hx315_0, hx315_1, hx315_2, hx315_3, hx315_4, hx315_5, hx315_6, hx315_7, hx315_8, hx315_9, hx315_10, hx315_11, hx315_12, hx315_13, hx315_14, hx315_15, hl315_1, hi315_1, hl315_4, hi315_4, hl315_8, hi315_8, hl315_9, hi315_9, hl315_13, hi315_13, hl315_14, hi315_14, hl315_15, hi315_15⟩ := at_T44 HR0_1.out (rd ((rd_T44 l0_1 a1).f1) 0) p315 q315
          have hw315_15 := hx315_15
          have hw315_14 := hx315_14
          have hw315_13 := hx315_13
          have hw315_12 := hx315_12
          have hw315_11 := hx315_11
          have hw315_10 := hx315_10
          have hw315_9 := hx315_9
          have hw315_8 := hx315_8
          have hw315_7 := hx315_7
          have hw315_6 := hx315_6
          have hw315_5 := hx315_5
          have hw315_4 := hx315_4
          have hw315_3 := hx315_3
          have hw315_2 := hx315_2
          have hw315_1 := hx315_1
          have hw315_0 := hx315_0
          obtain rfl : ad310 = ad315 := (by injection e315)
          replace hx315_0 := pw_cell_below HB.out hx315_0
          replace hx315_1 := pw_cell_below HB.out hx315_1
          replace hx315_2 := pw_cell_below HB.out hx315_2
          replace hx315_3 := pw_cell_below HB.out hx315_3
          replace hx315_4 := pw_cell_below HB.out hx315_4
          replace hx315_5 := pw_cell_below HB.out hx315_5
          replace hx315_6 := pw_cell_below HB.out hx315_6
          replace hx315_7 := pw_cell_below HB.out hx315_7
          replace hx315_8 := pw_cell_below HB.out hx315_8
          replace hx315_9 := pw_cell_below HB.out hx315_9
          replace hx315_10 := pw_cell_below HB.out hx315_10
          replace hx315_11 := pw_cell_below HB.out hx315_11
          replace hx315_12 := pw_cell_below HB.out hx315_12
          replace hx315_13 := pw_cell_below HB.out hx315_13
          replace hx315_14 := pw_cell_below HB.out hx315_14
          replace hx315_15 := pw_cell_below HB.out hx315_15
          have HR315_1 := Aside0.mk hi315_1
          have HC315_1 := Aside0.mk hl315_1
          clear hi315_1 hl315_1
          have HR315_4 := Aside0.mk hi315_4
          have HC315_4 := Aside0.mk hl315_4
          clear hi315_4 hl315_4
          have HR315_8 := Aside0.mk hi315_8
          have HC315_8 := Aside0.mk hl315_8
          clear hi315_8 hl315_8
          have HR315_9 := Aside0.mk hi315_9
          have HC315_9 := Aside0.mk hl315_9
          clear hi315_9 hl315_9
          have HR315_13 := Aside0.mk hi315_13
          have HC315_13 := Aside0.mk hl315_13
          clear hi315_13 hl315_13
          have HR315_14 := Aside0.mk hi315_14
          have HC315_14 := Aside0.mk hl315_14
          clear hi315_14 hl315_14
          have HR315_15 := Aside0.mk hi315_15
          have HC315_15 := Aside0.mk hl315_15
          clear hi315_15 hl315_15
          replace p315 := eq_true p315
          replace q315 := eq_true q315
          refine start_ (n := 11) (S := fun w' => w'.cell? ⟨gb306, 0, none⟩ = some (.slice A0_0 l0_0.length c0_0) ∧ w'.cell? ⟨gb306, 1, none⟩ = some (.slice (some ad310) l0_1.length c0_1) ∧ w'.cell? ⟨gb311, 0, none⟩ = some (.int .i64 ((rd_T44 l0_1 a1).f0)) ∧ w'.cell? ⟨gb311, 1, none⟩ = some (.slice (some ad314) ((rd_T44 l0_1 a1).f1).length c310_1) ∧ w'.cell? ⟨gb311, 2, none⟩ = some (.string ((rd_T44 l0_1 a1).f2)) ∧ w'.cell? ⟨gb311, 3, none⟩ = some (.int .i64 ((rd_T44 l0_1 a1).f3)) ∧ w'.cell? ⟨gb311, 4, none⟩ = some (.slice A310_4 ((rd_T44 l0_1 a1).f4).length c310_4) ∧ w'.cell? ⟨gb311, 5, none⟩ = some (.int .i64 ((rd_T44 l0_1 a1).f5)) ∧ w'.cell? ⟨gb311, 6, none⟩ = some (.int .i64 ((rd_T44 l0_1 a1).f6)) ∧ w'.cell? ⟨gb311, 7, none⟩ = some (.int .i64 ((rd_T44 l0_1 a1).f7)) ∧ w'.cell? ⟨gb311, 8, none⟩ = some (.slice A310_8 ((rd_T44 l0_1 a1).f8).length c310_8) ∧ w'.cell? ⟨gb311, 9, none⟩ = some (.slice A310_9 ((rd_T44 l0_1 a1).f9).length c310_9) ∧ w'.cell? ⟨gb311, 10, none⟩ = some (.int .i64 ((rd_T44 l0_1 a1).f10)) ∧ w'.cell? ⟨gb311, 11, none⟩ = some (.int .i64 ((rd_T44 l0_1 a1).f11)) ∧ w'.cell? ⟨gb311, 12, none⟩ = some (.int .i64 ((rd_T44 l0_1 a1).f12)) ∧ w'.cell? ⟨gb311, 13, none⟩ = some (.slice A310_13 ((rd_T44 l0_1 a1).f13).length c310_13) ∧ w'.cell? ⟨gb311, 14, none⟩ = some (.slice A310_14 ((rd_T44 l0_1 a1).f14).length c310_14) ∧ w'.cell? ⟨gb311, 15, none⟩ = some (.slice A310_15 ((rd_T44 l0_1 a1).f15).length c310_15) ∧ w'.cell? ad314 = some (.int .i64 (rd ((rd_T44 l0_1 a1).f1) 0)) ∧ w'.cell? (ad310.add (((rd ((rd_T44 l0_1 a1).f1) 0)).toNat * 16)) = some (.int .i64 ((rd_T44 l0_1 (rd ((rd_T44 l0_1 a1).f1) 0)).f0)) ∧ w'.cell? ⟨(ad310.add (((rd ((rd_T44 l0_1 a1).f1) 0)).toNat * 16)).block, (ad310.add (((rd ((rd_T44 l0_1 a1).f1) 0)).toNat * 16)).off + 1, none⟩ = some (.slice A315_1 ((rd_T44 l0_1 (rd ((rd_T44 l0_1 a1).f1) 0)).f1).length c315_1) ∧ w'.cell? ⟨(ad310.add (((rd ((rd_T44 l0_1 a1).f1) 0)).toNat * 16)).block, (ad310.add (((rd ((rd_T44 l0_1 a1).f1) 0)).toNat * 16)).off + 2, none⟩ = some (.string ((rd_T44 l0_1 (rd ((rd_T44 l0_1 a1).f1) 0)).f2)) ∧ w'.cell? ⟨(ad310.add (((rd ((rd_T44 l0_1 a1).f1) 0)).toNat * 16)).block, (ad310.add (((rd ((rd_T44 l0_1 a1).f1) 0)).toNat * 16)).off + 3, none⟩ = some (.int .i64 ((rd_T44 l0_1 (rd ((rd_T44 l0_1 a1).f1) 0)).f3)) ∧ w'.cell? ⟨(ad310.add (((rd ((rd_T44 l0_1 a1).f1) 0)).toNat * 16)).block, (ad310.add (((rd ((rd_T44 l0_1 a1).f1) 0)).toNat * 16)).off + 4, none⟩ = some (.slice A315_4 ((rd_T44 l0_1 (rd ((rd_T44 l0_1 a1).f1) 0)).f4).length c315_4) ∧ w'.cell? ⟨(ad310.add (((rd ((rd_T44 l0_1 a1).f1) 0)).toNat * 16)).block, (ad310.add (((rd ((rd_T44 l0_1 a1).f1) 0)).toNat * 16)).off + 5, none⟩ = some (.int .i64 ((rd_T44 l0_1 (rd ((rd_T44 l0_1 a1).f1) 0)).f5)) ∧ w'.cell? ⟨(ad310.add (((rd ((rd_T44 l0_1 a1).f1) 0)).toNat * 16)).block, (ad310.add (((rd ((rd_T44 l0_1 a1).f1) 0)).toNat * 16)).off + 6, none⟩ = some (.int .i64 ((rd_T44 l0_1 (rd ((rd_T44 l0_1 a1).f1) 0)).f6)) ∧ w'.cell? ⟨(ad310.add (((rd ((rd_T44 l0_1 a1).f1) 0)).toNat * 16)).block, (ad310.add (((rd ((rd_T44 l0_1 a1).f1) 0)).toNat * 16)).off + 7, none⟩ = some (.int .i64 ((rd_T44 l0_1 (rd ((rd_T44 l0_1 a1).f1) 0)).f7)) ∧ w'.cell? ⟨(ad310.add (((rd ((rd_T44 l0_1 a1).f1) 0)).toNat * 16)).block, (ad310.add (((rd ((rd_T44 l0_1 a1).f1) 0)).toNat * 16)).off + 8, none⟩ = some (.slice A315_8 ((rd_T44 l0_1 (rd ((rd_T44 l0_1 a1).f1) 0)).f8).length c315_8) ∧ w'.cell? ⟨(ad310.add (((rd ((rd_T44 l0_1 a1).f1) 0)).toNat * 16)).block, (ad310.add (((rd ((rd_T44 l0_1 a1).f1) 0)).toNat * 16)).off + 9, none⟩ = some (.slice A315_9 ((rd_T44 l0_1 (rd ((rd_T44 l0_1 a1).f1) 0)).f9).length c315_9) ∧ w'.cell? ⟨(ad310.add (((rd ((rd_T44 l0_1 a1).f1) 0)).toNat * 16)).block, (ad310.add (((rd ((rd_T44 l0_1 a1).f1) 0)).toNat * 16)).off + 10, none⟩ = some (.int .i64 ((rd_T44 l0_1 (rd ((rd_T44 l0_1 a1).f1) 0)).f10)) ∧ w'.cell? ⟨(ad310.add (((rd ((rd_T44 l0_1 a1).f1) 0)).toNat * 16)).block, (ad310.add (((rd ((rd_T44 l0_1 a1).f1) 0)).toNat * 16)).off + 11, none⟩ = some (.int .i64 ((rd_T44 l0_1 (rd ((rd_T44 l0_1 a1).f1) 0)).f11)) ∧ w'.cell? ⟨(ad310.add (((rd ((rd_T44 l0_1 a1).f1) 0)).toNat * 16)).block, (ad310.add (((rd ((rd_T44 l0_1 a1).f1) 0)).toNat * 16)).off + 12, none⟩ = some (.int .i64 ((rd_T44 l0_1 (rd ((rd_T44 l0_1 a1).f1) 0)).f12)) ∧ w'.cell? ⟨(ad310.add (((rd ((rd_T44 l0_1 a1).f1) 0)).toNat * 16)).block, (ad310.add (((rd ((rd_T44 l0_1 a1).f1) 0)).toNat * 16)).off + 13, none⟩ = some (.slice A315_13 ((rd_T44 l0_1 (rd ((rd_T44 l0_1 a1).f1) 0)).f13).length c315_13) ∧ w'.cell? ⟨(ad310.add (((rd ((rd_T44 l0_1 a1).f1) 0)).toNat * 16)).block, (ad310.add (((rd ((rd_T44 l0_1 a1).f1) 0)).toNat * 16)).off + 14, none⟩ = some (.slice A315_14 ((rd_T44 l0_1 (rd ((rd_T44 l0_1 a1).f1) 0)).f14).length c315_14) ∧ w'.cell? ⟨(ad310.add (((rd ((rd_T44 l0_1 a1).f1) 0)).toNat * 16)).block, (ad310.add (((rd ((rd_T44 l0_1 a1).f1) 0)).toNat * 16)).off + 15, none⟩ = some (.slice A315_15 ((rd_T44 l0_1 (rd ((rd_T44 l0_1 a1).f1) 0)).f15).length c315_15)) (ds := []) #[O,O,O,O,O,O,O,O,O,O,O] (by kernel_rfl) rfl rfl ⟨(blk_cell BK306.out 0).trans rfl, (blk_cell BK306.out 1).trans rfl, (blk_cell BK311.out 0).trans rfl, (blk_cell BK311.out 1).trans rfl, (blk_cell BK311.out 2).trans rfl, (blk_cell BK311.out 3).trans rfl, (blk_cell BK311.out 4).trans rfl, (blk_cell BK311.out 5).trans rfl, (blk_cell BK311.out 6).trans rfl, (blk_cell BK311.out 7).trans rfl, (blk_cell BK311.out 8).trans rfl, (blk_cell BK311.out 9).trans rfl, (blk_cell BK311.out 10).trans rfl, (blk_cell BK311.out 11).trans rfl, (blk_cell BK311.out 12).trans rfl, (blk_cell BK311.out 13).trans rfl, (blk_cell BK311.out 14).trans rfl, (blk_cell BK311.out 15).trans rfl, (pw_cell_below HB.out hw314_0), (pw_cell_below HB.out hw315_0), (pw_cell_below HB.out hw315_1), (pw_cell_below HB.out hw315_2), (pw_cell_below HB.out hw315_3), (pw_cell_below HB.out hw315_4), (pw_cell_below HB.out hw315_5), (pw_cell_below HB.out hw315_6), (pw_cell_below HB.out hw315_7), (pw_cell_below HB.out hw315_8), (pw_cell_below HB.out hw315_9), (pw_cell_below HB.out hw315_10), (pw_cell_below HB.out hw315_11), (pw_cell_below HB.out hw315_12), (pw_cell_below HB.out hw315_13), (pw_cell_below HB.out hw315_14), (pw_cell_below HB.out hw315_15)⟩ (fun hHeld => ?_); refine with_tabW bounds_Witness.tab11 bounds_Witness.bits11 (fun HT_ HW_ => ?_)
          generalize w45.drew = w46 at HO_8 BK306 BK311 BK313 HB HR315_1 HR315_13 HR315_14 HR315_15 HR315_4 HR315_8 HR315_9 hx314_0 hx315_0 hx315_1 hx315_10 hx315_11 hx315_12 hx315_13 hx315_14 hx315_15 hx315_2 hx315_3 hx315_4 hx315_5 hx315_6 hx315_7 hx315_8 hx315_9 hHeld ⊢
          refine pureA 0 50 #[J,O,O,O,O,O,O,O,O,O,O] ?_
          refine pureA 2 52 #[J,O,J,O,O,O,O,O,O,O,O] ?_
          refine pureA 10 60 #[J,O,J,O,O,O,O,O,O,O,J] ?_
          refine takeA 1 51 #[J,J,J,O,O,O,O,O,O,O,J] ?_
          refine takeA 3 53 #[J,J,J,J,O,O,O,O,O,O,J] ?_
          refine pureA 4 54 #[J,J,J,J,J,O,O,O,O,O,J] ?_
          refine takeA 5 55 #[J,J,J,J,J,J,O,O,O,O,J] ?_
          refine pureA 6 56 #[J,J,J,J,J,J,J,O,O,O,J] ?_
          refine pureA 7 57 #[J,J,J,J,J,J,J,J,O,O,J] ?_
          refine takeA 8 58 #[J,J,J,J,J,J,J,J,J,O,J] ?_
          refine pureA 9 59 #[J,J,J,J,J,J,J,J,J,J,J] ?_
          refine done_ (done_of HT_.out (by kernel_rfl)) ?_
          try go_wp2
          go_loopg [60] k3 (fun kq v60 w' => ∃ (x60_4 : Int) (x314001_4 : List (S70)) (u314001 : Value), v60 = .int .i64 x60_4 ∧ Aside0 (bounds_Witness.l1 kq x8_3 a2 x44_3 ((rd_T44 l0_1 (rd ((rd_T44 l0_1 a1).f1) 0)).f15) (((rd_T44 l0_1 (rd ((rd_T44 l0_1 a1).f1) 0)).f15).length : Int) x60_4 l0_0 l0_1 ((rd_T44 l0_1 a1).f0) ((rd_T44 l0_1 a1).f1) ((rd_T44 l0_1 a1).f2) ((rd_T44 l0_1 a1).f3) ((rd_T44 l0_1 a1).f4) ((rd_T44 l0_1 a1).f5) ((rd_T44 l0_1 a1).f6) ((rd_T44 l0_1 a1).f7) ((rd_T44 l0_1 a1).f8) ((rd_T44 l0_1 a1).f9) ((rd_T44 l0_1 a1).f10) ((rd_T44 l0_1 a1).f11) ((rd_T44 l0_1 a1).f12) ((rd_T44 l0_1 a1).f13) ((rd_T44 l0_1 a1).f14) ((rd_T44 l0_1 a1).f15) (wrap64 (30001 * x44_3)) x314001_4 1 = some r) ∧ Aside0 (kq ≤ k3) ∧ Aside0 (Kd.S k55 55 w' w.heap.size (fun k_ => some k_ ≠ (u314001 : Value).ownBlock ∧ k_ ≠ gb313) u8 x8_3) ∧ Aside0 (Kd.R k70 70 w' w.heap.size (fun _ => True) u314001 x314001_4) ∧ Aside0 (w'.heap[gb306]? = some (.cells #[(.slice A0_0 l0_0.length c0_0), (.slice (some ad310) l0_1.length c0_1)] 25 (0, 0))) ∧ Aside0 (w'.heap[gb311]? = some (.cells #[.int .i64 ((rd_T44 l0_1 a1).f0), (.slice (some ad314) ((rd_T44 l0_1 a1).f1).length c310_1), .string ((rd_T44 l0_1 a1).f2), .int .i64 ((rd_T44 l0_1 a1).f3), (.slice A310_4 ((rd_T44 l0_1 a1).f4).length c310_4), .int .i64 ((rd_T44 l0_1 a1).f5), .int .i64 ((rd_T44 l0_1 a1).f6), .int .i64 ((rd_T44 l0_1 a1).f7), (.slice A310_8 ((rd_T44 l0_1 a1).f8).length c310_8), (.slice A310_9 ((rd_T44 l0_1 a1).f9).length c310_9), .int .i64 ((rd_T44 l0_1 a1).f10), .int .i64 ((rd_T44 l0_1 a1).f11), .int .i64 ((rd_T44 l0_1 a1).f12), (.slice A310_13 ((rd_T44 l0_1 a1).f13).length c310_13), (.slice A310_14 ((rd_T44 l0_1 a1).f14).length c310_14), (.slice A310_15 ((rd_T44 l0_1 a1).f15).length c310_15)] 44 (0, 0))) ∧ Aside0 (w'.heap[gb313]? = some (.cells #[.int .i64 (wrap64 (30001 * x44_3)), u314001, .int .i64 1] 55 (0, 0))) ∧ Aside0 (Below w.heap.size w w'))
          case atStart => exact ⟨(0), (([] : List (S70))), (.slice none 0 0), (by first | rfl | (simp; done) | (simp [*]; done)), H', ⟨Nat.le_refl _⟩, ⟨by (with_reducible repeat (first | apply Kd.S_alloc | apply Kd.S_drewN | apply Kd.S_drew)); exact Kd.S_mono HO_8.out (fun _ hk => ⟨(by simp [Value.ownBlock]), hk⟩)⟩, ⟨by first | exact Kd.R_nil _ _ _ _ _ | exact Kd.N_nil _ _ _ _ _ | exact Kd.V_nil _ _ _ _ _ | exact Kd.Q_nil _ _ _ _ _ | exact Kd.S_nil _ _ _ _ _⟩, ⟨blk_move BK306.out⟩, ⟨blk_move BK311.out⟩, ⟨blk_move BK313.out⟩, ⟨by repeat (first | (with_reducible first | exact HB.out | apply below_alloc | apply pw_below_drewN | apply below_drew1 | refine below_set ?_ GE306.out | refine below_set ?_ GE311.out | refine below_set ?_ GE313.out) | exact HB.out)⟩⟩
          case round =>
           clear H'
           try clear c1
           try clear c2
           try clear p2
           try clear c3
           try clear p3
           try clear q3
           try clear hx3
           try clear qi3
           try clear c4
           try clear p6
           try clear c7
           try clear c9
           try clear c12
           try clear c13
           try clear c19
           try clear c20
           try clear c20b0
           try clear c21
           try clear c21b0
           try clear c25
           try clear c28
           try clear c29
           try clear c31
           try clear p31
           try clear q31
           try clear hx31
           try clear qi31
           try clear c32
           try clear c36
           try clear c37
           try clear c37b0
           try clear c38
           try clear c38b0
           try clear c38b1
           try clear c39
           try clear c39b0
           try clear c40
           try clear c40b0
           try clear c42
           try clear c43
           try clear hz11
           try clear hz13
           try clear hz14
           try clear hz16
           try clear hz17
           try clear hz23
           try clear hz26
           try clear hz30
           try clear hz33
           try clear hz35
           try clear hz44
           try clear hx310_0
           try clear hx310_1
           try clear hx310_10
           try clear hx310_11
           try clear hx310_12
           try clear hx310_13
           try clear hx310_14
           try clear hx310_15
           try clear hx310_2
           try clear hx310_3
           try clear hx310_4
           try clear hx310_5
           try clear hx310_6
           try clear hx310_7
           try clear hx310_8
           try clear hx310_9
           try clear hx314_0
           try clear hx315_0
           try clear hx315_1
           try clear hx315_10
           try clear hx315_11
           try clear hx315_12
           try clear hx315_13
           try clear hx315_14
           try clear hx315_15
           try clear hx315_2
           try clear hx315_3
           try clear hx315_4
           try clear hx315_5
           try clear hx315_6
           try clear hx315_7
           try clear hx315_8
           try clear hx315_9
           try clear p2
           try clear p3
           try clear p31
           try clear p310
           try clear p314
           try clear p315
           try clear p6
           try clear q3
           try clear q31
           try clear q310
           try clear q314
           try clear q315
           obtain ⟨x60_4, x314001_4, u314001, rfl, HA, HK4, HO_8, HO_314001, BK306, BK311, BK313, HB⟩ := hrel
           cases gk with
           | zero => exact absurd HA.out (by simp [bounds_Witness.l1])
           | succ k4 =>
            have H := HA.out
            clear HA
            simp only [bounds_Witness.l1] at H
            by_cases c47 : x60_4 < (((rd_T44 l0_1 (rd ((rd_T44 l0_1 a1).f1) 0)).f15).length : Int)
            ·
             rw [if_pos c47] at H
             have c47b0 : decide (x60_4 < (((rd_T44 l0_1 (rd ((rd_T44 l0_1 a1).f1) 0)).f15).length : Int)) = true := decide_eq_true c47
             clear c47
             by_cases c48 : 0 ≤ x60_4
             case neg => rw [if_neg c48] at H; exact absurd H (by simp)
             rw [if_pos c48] at H
             have c48b0 : decide (0 ≤ x60_4) = true := decide_eq_true c48
             clear c48
             by_cases c49 : x60_4 < (((rd_T44 l0_1 (rd ((rd_T44 l0_1 a1).f1) 0)).f15).length : Int)
             case neg => rw [if_neg c49] at H; exact absurd H (by simp)
             rw [if_pos c49] at H
             have c49b0 : decide (x60_4 < (((rd_T44 l0_1 (rd ((rd_T44 l0_1 a1).f1) 0)).f15).length : Int)) = true := decide_eq_true c49
             clear c49
             replace H := Option.bind_eq_some_iff.mp H
             obtain ⟨t321, A500, H⟩ := H
             try dsimp only at H
             have A50 := Aside0.mk A500
             clear A500
             by_cases c51 : t321 = true
             ·
              subst c51
              rw [if_pos rfl] at H
              replace H := Option.bind_eq_some_iff.mp H
              obtain ⟨⟨t322, t323, t324⟩, A520, H⟩ := H
              try dsimp only at H
              have A52 := Aside0.mk A520
              clear A520
              by_cases c53 : x314001_4.length < 4398046511104
              case neg => rw [if_neg c53] at H; exact absurd H (by simp)
              rw [if_pos c53] at H
              have LMc53 := Aside0.mk c53
              clear c53
              obtain ⟨y325, hy325⟩ : ∃ y_ : List (S70), y_ = (x314001_4 ++ [(⟨t322, t323, t324⟩ : S70)]) := ⟨_, rfl⟩
              replace H : (bounds_Witness.l1 k4 x8_3 a2 x44_3 ((rd_T44 l0_1 (rd ((rd_T44 l0_1 a1).f1) 0)).f15) (((rd_T44 l0_1 (rd ((rd_T44 l0_1 a1).f1) 0)).f15).length : Int) (wrap64 (x60_4 + 1)) l0_0 l0_1 ((rd_T44 l0_1 a1).f0) ((rd_T44 l0_1 a1).f1) ((rd_T44 l0_1 a1).f2) ((rd_T44 l0_1 a1).f3) ((rd_T44 l0_1 a1).f4) ((rd_T44 l0_1 a1).f5) ((rd_T44 l0_1 a1).f6) ((rd_T44 l0_1 a1).f7) ((rd_T44 l0_1 a1).f8) ((rd_T44 l0_1 a1).f9) ((rd_T44 l0_1 a1).f10) ((rd_T44 l0_1 a1).f11) ((rd_T44 l0_1 a1).f12) ((rd_T44 l0_1 a1).f13) ((rd_T44 l0_1 a1).f14) ((rd_T44 l0_1 a1).f15) (wrap64 (30001 * x44_3)) y325 1) = some r := by first | (rw [hy325]; with_reducible exact H) | (have H2_ := (Option.bind_some _ _).symm.trans H; rw [hy325]; with_reducible exact H2_) | (have H2_ := (Option.bind_some _ _).symm.trans H; with_reducible exact H2_) | with_reducible exact H | (rw [hy325]; exact H) | exact H
              have Ny325 := Aside0.mk hy325
              clear hy325
              have H' := Aside0.mk H
              clear H
              have p319 : 0 ≤ (x60_4 : Int) := odA
              have q319 : x60_4 < (((rd_T44 l0_1 (rd ((rd_T44 l0_1 a1).f1) 0)).f15).length : Int) := odA
              obtain ⟨ad319, e319, hx319_0, hx319_1, hx319_2⟩ := at_T50 HR315_15.out x60_4 p319 q319
              cases e319
              replace hx319_0 := pw_cell_below HB.out hx319_0
              replace hx319_1 := pw_cell_below HB.out hx319_1
              replace hx319_2 := pw_cell_below HB.out hx319_2
              replace p319 := eq_true p319
              replace q319 := eq_true q319
              try go_wp2_with (first | ((with_reducible refine gate_dst (N := 12) rfl ?_); (try (refine gate_guard (by rfl) ?_; dsimp only)); refine box_event ?hg (N := 12) ?hd (cs := #[.string (⟨#[]⟩ : ByteArray), .int .i64 0, .string (⟨#[]⟩ : ByteArray)]) (t := 50) ?hr ?_; (case hd => rfl); (case hg => rfl); (case hr => first | (go_simp; done) | (go_simp; rfl)); intro gb320 hg w54 hbox hb; have n0_ := Aside0.mk (Kd.S_below (by (with_reducible repeat (first | apply Kd.S_alloc | apply Kd.S_drewN | apply Kd.S_drew)); exact HO_8.out) hb); have n1_ := Aside0.mk (r_belowA HO_314001.out hb); have n2_ := Aside0.mk (blk_keepA BK306.out hb); have n3_ := Aside0.mk (blk_keepA BK311.out hb); have n4_ := Aside0.mk (blk_keepA BK313.out hb); have n5_ := Aside0.mk (below_stepA hb); have n6_ := Aside0.mk (hbox); have n7_ := Aside0.mk ((by rw [hg]; exact below_sizeA : w.heap.size ≤ gb320)); have n8_ := Aside0.mk ((by rw [hg]; exact below_sizeA : w.heap.size ≤ gb320)); have n9_ := Aside0.mk ((by rw [hg]; exact Nat.ne_of_lt (blk_ltKA BK306.out) : gb306 ≠ gb320)); have n10_ := Aside0.mk ((by rw [hg]; exact Nat.ne_of_gt (blk_ltKA BK306.out) : gb320 ≠ gb306)); have n11_ := Aside0.mk ((by rw [hg]; exact Nat.ne_of_lt (blk_ltKA BK311.out) : gb311 ≠ gb320)); have n12_ := Aside0.mk ((by rw [hg]; exact Nat.ne_of_gt (blk_ltKA BK311.out) : gb320 ≠ gb311)); have n13_ := Aside0.mk ((by rw [hg]; exact Nat.ne_of_lt (blk_ltKA BK313.out) : gb313 ≠ gb320)); have n14_ := Aside0.mk ((by rw [hg]; exact Nat.ne_of_gt (blk_ltKA BK313.out) : gb320 ≠ gb313)); clear HO_8; clear HO_314001; clear BK306; clear BK311; clear BK313; clear HB; have HO_8 := n0_; have HO_314001 := n1_; have BK306 := n2_; have BK311 := n3_; have BK313 := n4_; have HB := n5_; have BK320 := n6_; have GW320 := n7_; have GE320 := n8_; have NB306_320 := n9_; have NB320_306 := n10_; have NB311_320 := n11_; have NB320_311 := n12_; have NB313_320 := n13_; have NB320_313 := n14_; clear n0_ n1_ n2_ n3_ n4_ n5_ n6_ n7_ n8_ n9_ n10_ n11_ n12_ n13_ n14_; clear hb hbox hg; have hnb55 := NB320_306.out; have hnc55 := NB306_320.out; have hnb56 := NB320_311.out; have hnc56 := NB311_320.out; have hnb57 := NB320_313.out; have hnc57 := NB313_320.out; have hz58 := blk3 BK320.out) | ((with_reducible refine gate_callee (f := 28) rfl ?_); refine goesL_ (some 66) rfl rfl Try.func28 (by kernel_rfl) rfl #[.int .i64 ((rd_T50 ((rd_T44 l0_1 (rd ((rd_T44 l0_1 a1).f1) 0)).f15) x60_4).f1), .int .i64 0, .int .i64 2] rfl mapA ?_; (with_reducible refine (bounds_within.calls _ 0 2 true _ A50.out).mono ?_); rintro e w' ⟨rfl, ⟨nd, rfl⟩⟩; refine ⟨_, rfl, ?_⟩))
              have n0_ : Aside0 (Kd.S k55 55 (((w54.setCell ⟨gb320, 0, none⟩ (.string ((rd_T50 ((rd_T44 l0_1 (rd ((rd_T44 l0_1 a1).f1) 0)).f15) x60_4).f0))).setCell ⟨gb320, 1, none⟩ (.int .i64 ((rd_T50 ((rd_T44 l0_1 (rd ((rd_T44 l0_1 a1).f1) 0)).f15) x60_4).f1))).setCell ⟨gb320, 2, none⟩ (.string ((rd_T50 ((rd_T44 l0_1 (rd ((rd_T44 l0_1 a1).f1) 0)).f15) x60_4).f2))) w.heap.size (fun k_ => some k_ ≠ (u314001 : Value).ownBlock ∧ k_ ≠ gb313) u8 x8_3) := ⟨by (with_reducible repeat (first | apply Kd.S_alloc | apply Kd.S_drewN | apply Kd.S_drew)); exact Kd.S_mono (Kd.S_far (p := ⟨gb320, 2, none⟩) (Kd.S_far (p := ⟨gb320, 1, none⟩) (Kd.S_far (p := ⟨gb320, 0, none⟩) (Kd.S_types HO_8.out BK320.out (by decide)) (fun _ hk => hk.2) (.string ((rd_T50 ((rd_T44 l0_1 (rd ((rd_T44 l0_1 a1).f1) 0)).f15) x60_4).f0))) (fun _ hk => hk.2) (.int .i64 ((rd_T50 ((rd_T44 l0_1 (rd ((rd_T44 l0_1 a1).f1) 0)).f15) x60_4).f1))) (fun _ hk => hk.2) (.string ((rd_T50 ((rd_T44 l0_1 (rd ((rd_T44 l0_1 a1).f1) 0)).f15) x60_4).f2))) (fun _ hk => ⟨hk.1.1, hk.1.2⟩)⟩
              have n1_ : Aside0 (Kd.R k70 70 (((w54.setCell ⟨gb320, 0, none⟩ (.string ((rd_T50 ((rd_T44 l0_1 (rd ((rd_T44 l0_1 a1).f1) 0)).f15) x60_4).f0))).setCell ⟨gb320, 1, none⟩ (.int .i64 ((rd_T50 ((rd_T44 l0_1 (rd ((rd_T44 l0_1 a1).f1) 0)).f15) x60_4).f1))).setCell ⟨gb320, 2, none⟩ (.string ((rd_T50 ((rd_T44 l0_1 (rd ((rd_T44 l0_1 a1).f1) 0)).f15) x60_4).f2))) w.heap.size (fun _ => True) u314001 x314001_4) := ⟨by (with_reducible repeat (first | apply Kd.R_alloc | apply Kd.R_drewN | apply Kd.R_drew)); exact Kd.R_mono (Kd.R_far (p := ⟨gb320, 2, none⟩) (Kd.R_far (p := ⟨gb320, 1, none⟩) (Kd.R_far (p := ⟨gb320, 0, none⟩) (Kd.R_types HO_314001.out BK320.out (by decide)) (fun _ hk => hk.2) (.string ((rd_T50 ((rd_T44 l0_1 (rd ((rd_T44 l0_1 a1).f1) 0)).f15) x60_4).f0))) (fun _ hk => hk.2) (.int .i64 ((rd_T50 ((rd_T44 l0_1 (rd ((rd_T44 l0_1 a1).f1) 0)).f15) x60_4).f1))) (fun _ hk => hk.2) (.string ((rd_T50 ((rd_T44 l0_1 (rd ((rd_T44 l0_1 a1).f1) 0)).f15) x60_4).f2))) (fun _ hk => trivial)⟩
              have n2_ : Aside0 ((((w54.setCell ⟨gb320, 0, none⟩ (.string ((rd_T50 ((rd_T44 l0_1 (rd ((rd_T44 l0_1 a1).f1) 0)).f15) x60_4).f0))).setCell ⟨gb320, 1, none⟩ (.int .i64 ((rd_T50 ((rd_T44 l0_1 (rd ((rd_T44 l0_1 a1).f1) 0)).f15) x60_4).f1))).setCell ⟨gb320, 2, none⟩ (.string ((rd_T50 ((rd_T44 l0_1 (rd ((rd_T44 l0_1 a1).f1) 0)).f15) x60_4).f2))).heap[gb306]? = some (.cells #[.slice A0_0 l0_0.length c0_0, .slice (some ad310) l0_1.length c0_1] 25 (0, 0))) := ⟨blk_move BK306.out⟩
              have n3_ : Aside0 ((((w54.setCell ⟨gb320, 0, none⟩ (.string ((rd_T50 ((rd_T44 l0_1 (rd ((rd_T44 l0_1 a1).f1) 0)).f15) x60_4).f0))).setCell ⟨gb320, 1, none⟩ (.int .i64 ((rd_T50 ((rd_T44 l0_1 (rd ((rd_T44 l0_1 a1).f1) 0)).f15) x60_4).f1))).setCell ⟨gb320, 2, none⟩ (.string ((rd_T50 ((rd_T44 l0_1 (rd ((rd_T44 l0_1 a1).f1) 0)).f15) x60_4).f2))).heap[gb311]? = some (.cells (A44 (rd_T44 l0_1 a1) (some ad314) c310_1 A310_4 c310_4 A310_8 c310_8 A310_9 c310_9 A310_13 c310_13 A310_14 c310_14 A310_15 c310_15) 44 (0, 0))) := ⟨blk_move BK311.out⟩
              have n4_ : Aside0 ((((w54.setCell ⟨gb320, 0, none⟩ (.string ((rd_T50 ((rd_T44 l0_1 (rd ((rd_T44 l0_1 a1).f1) 0)).f15) x60_4).f0))).setCell ⟨gb320, 1, none⟩ (.int .i64 ((rd_T50 ((rd_T44 l0_1 (rd ((rd_T44 l0_1 a1).f1) 0)).f15) x60_4).f1))).setCell ⟨gb320, 2, none⟩ (.string ((rd_T50 ((rd_T44 l0_1 (rd ((rd_T44 l0_1 a1).f1) 0)).f15) x60_4).f2))).heap[gb313]? = some (.cells #[.int .i64 (wrap64 (30001 * x44_3)), u314001, .int .i64 1] 55 (0, 0))) := ⟨blk_move BK313.out⟩
              have n5_ : Aside0 ((((w54.setCell ⟨gb320, 0, none⟩ (.string ((rd_T50 ((rd_T44 l0_1 (rd ((rd_T44 l0_1 a1).f1) 0)).f15) x60_4).f0))).setCell ⟨gb320, 1, none⟩ (.int .i64 ((rd_T50 ((rd_T44 l0_1 (rd ((rd_T44 l0_1 a1).f1) 0)).f15) x60_4).f1))).setCell ⟨gb320, 2, none⟩ (.string ((rd_T50 ((rd_T44 l0_1 (rd ((rd_T44 l0_1 a1).f1) 0)).f15) x60_4).f2))).heap[gb320]? = some (.cells #[.string ((rd_T50 ((rd_T44 l0_1 (rd ((rd_T44 l0_1 a1).f1) 0)).f15) x60_4).f0), .int .i64 ((rd_T50 ((rd_T44 l0_1 (rd ((rd_T44 l0_1 a1).f1) 0)).f15) x60_4).f1), .string ((rd_T50 ((rd_T44 l0_1 (rd ((rd_T44 l0_1 a1).f1) 0)).f15) x60_4).f2)] 50 (0, 0))) := ⟨blk_move BK320.out⟩
              have n6_ : Aside0 (Below w.heap.size w (((w54.setCell ⟨gb320, 0, none⟩ (.string ((rd_T50 ((rd_T44 l0_1 (rd ((rd_T44 l0_1 a1).f1) 0)).f15) x60_4).f0))).setCell ⟨gb320, 1, none⟩ (.int .i64 ((rd_T50 ((rd_T44 l0_1 (rd ((rd_T44 l0_1 a1).f1) 0)).f15) x60_4).f1))).setCell ⟨gb320, 2, none⟩ (.string ((rd_T50 ((rd_T44 l0_1 (rd ((rd_T44 l0_1 a1).f1) 0)).f15) x60_4).f2)))) := ⟨by repeat (first | (with_reducible first | exact HB.out | apply below_alloc | apply pw_below_drewN | apply below_drew1 | refine below_set ?_ GE306.out | refine below_set ?_ GE311.out | refine below_set ?_ GE313.out | refine below_set ?_ GE320.out) | exact HB.out)⟩
              (try clear HO_8)
              (try clear HO_314001)
              (try clear BK306)
              (try clear BK311)
              (try clear BK313)
              (try clear BK320)
              (try clear HB)
              generalize (((w54.setCell ⟨gb320, 0, none⟩ (.string ((rd_T50 ((rd_T44 l0_1 (rd ((rd_T44 l0_1 a1).f1) 0)).f15) x60_4).f0))).setCell ⟨gb320, 1, none⟩ (.int .i64 ((rd_T50 ((rd_T44 l0_1 (rd ((rd_T44 l0_1 a1).f1) 0)).f15) x60_4).f1))).setCell ⟨gb320, 2, none⟩ (.string ((rd_T50 ((rd_T44 l0_1 (rd ((rd_T44 l0_1 a1).f1) 0)).f15) x60_4).f2))) = w59 at n0_ n1_ n2_ n3_ n4_ n5_ n6_ ⊢
              have HO_8 := n0_
              have HO_314001 := n1_
              have BK306 := n2_
              have BK311 := n3_
              have BK313 := n4_
              have BK320 := n5_
              have HB := n6_
              clear n0_ n1_ n2_ n3_ n4_ n5_ n6_
              (try (rw [drewN_self w59]; generalize hq_ : World.drewN w59 _ = w59; have n0_ : Aside0 (Kd.R k70 70 w59 w.heap.size (fun _ => True) u314001 x314001_4) := ⟨by rw [← hq_]; exact (by (with_reducible repeat (first | apply Kd.R_alloc | apply Kd.R_drewN | apply Kd.R_drew)); exact HO_314001.out)⟩; have n1_ : Aside0 (Kd.S k55 55 w59 w.heap.size (fun k_ => some k_ ≠ (u314001 : Value).ownBlock ∧ k_ ≠ gb313) u8 x8_3) := ⟨by rw [← hq_]; exact (by (with_reducible repeat (first | apply Kd.S_alloc | apply Kd.S_drewN | apply Kd.S_drew)); exact HO_8.out)⟩; have n2_ : Aside0 (w59.heap[gb306]? = some (.cells #[.slice A0_0 l0_0.length c0_0, .slice (some ad310) l0_1.length c0_1] 25 (0, 0))) := ⟨by rw [← hq_]; exact (blk_move BK306.out)⟩; have n3_ : Aside0 (w59.heap[gb311]? = some (.cells (A44 (rd_T44 l0_1 a1) (some ad314) c310_1 A310_4 c310_4 A310_8 c310_8 A310_9 c310_9 A310_13 c310_13 A310_14 c310_14 A310_15 c310_15) 44 (0, 0))) := ⟨by rw [← hq_]; exact (blk_move BK311.out)⟩; have n4_ : Aside0 (w59.heap[gb313]? = some (.cells #[.int .i64 (wrap64 (30001 * x44_3)), u314001, .int .i64 1] 55 (0, 0))) := ⟨by rw [← hq_]; exact (blk_move BK313.out)⟩; have n5_ : Aside0 (w59.heap[gb320]? = some (.cells #[.string ((rd_T50 ((rd_T44 l0_1 (rd ((rd_T44 l0_1 a1).f1) 0)).f15) x60_4).f0), .int .i64 ((rd_T50 ((rd_T44 l0_1 (rd ((rd_T44 l0_1 a1).f1) 0)).f15) x60_4).f1), .string ((rd_T50 ((rd_T44 l0_1 (rd ((rd_T44 l0_1 a1).f1) 0)).f15) x60_4).f2)] 50 (0, 0))) := ⟨by rw [← hq_]; exact (blk_move BK320.out)⟩; have n6_ : Aside0 (Below w.heap.size w w59) := ⟨by rw [← hq_]; exact belowA⟩; clear HO_314001 HO_8 BK306 BK311 BK313 BK320 HB hq_; have HO_314001 := n0_; have HO_8 := n1_; have BK306 := n2_; have BK311 := n3_; have BK313 := n4_; have BK320 := n5_; have HB := n6_; clear n0_ n1_ n2_ n3_ n4_ n5_ n6_))
              have n0_ := Aside0.mk (Kd.S_drew HO_8.out)
              have n1_ := Aside0.mk (Kd.R_drew HO_314001.out)
              have n2_ := Aside0.mk (blk_drew BK306.out)
              have n3_ := Aside0.mk (blk_drew BK311.out)
              have n4_ := Aside0.mk (blk_drew BK313.out)
              have n5_ := Aside0.mk (blk_drew BK320.out)
              have n6_ := Aside0.mk (below_drew1 HB.out)
              clear HO_8
              clear HO_314001
              clear BK306
              clear BK311
              clear BK313
              clear BK320
              clear HB
              have HO_8 := n0_
              have HO_314001 := n1_
              have BK306 := n2_
              have BK311 := n3_
              have BK313 := n4_
              have BK320 := n5_
              have HB := n6_
              clear n0_ n1_ n2_ n3_ n4_ n5_ n6_
              refine start_ (n := 9) (S := fun w' => w'.cell? ⟨gb313, 0, none⟩ = some (.int .i64 (wrap64 (30001 * x44_3))) ∧ w'.cell? ⟨gb313, 1, none⟩ = some (u314001) ∧ w'.cell? ⟨gb313, 2, none⟩ = some (.int .i64 1) ∧ w'.cell? ⟨gb320, 0, none⟩ = some (.string ((rd_T50 ((rd_T44 l0_1 (rd ((rd_T44 l0_1 a1).f1) 0)).f15) x60_4).f0)) ∧ w'.cell? ⟨gb320, 1, none⟩ = some (.int .i64 ((rd_T50 ((rd_T44 l0_1 (rd ((rd_T44 l0_1 a1).f1) 0)).f15) x60_4).f1)) ∧ w'.cell? ⟨gb320, 2, none⟩ = some (.string ((rd_T50 ((rd_T44 l0_1 (rd ((rd_T44 l0_1 a1).f1) 0)).f15) x60_4).f2))) (ds := [8]) #[O,O,O,O,O,O,O,O,O] (by kernel_rfl) rfl rfl ⟨(blk_cell BK313.out 0).trans rfl, (blk_cell BK313.out 1).trans rfl, (blk_cell BK313.out 2).trans rfl, (blk_cell BK320.out 0).trans rfl, (blk_cell BK320.out 1).trans rfl, (blk_cell BK320.out 2).trans rfl⟩ (fun hHeld => ?_); refine with_tabW bounds_Witness.tab16 bounds_Witness.bits16 (fun HT_ HW_ => ?_)
              generalize w59.drew = w60 at HO_8 HO_314001 BK306 BK311 BK313 BK320 HB hHeld ⊢
              refine pureA 0 68 #[J,O,O,O,O,O,O,O,O] ?_
              refine pureA 2 70 #[J,O,J,O,O,O,O,O,O] ?_
              refine takeA 1 69 #[J,J,J,O,O,O,O,O,O] ?_
              refine takeA 3 71 #[J,J,J,J,O,O,O,O,O] ?_
              refine one_ (i := 4) (N := some 72) #[J,J,J,J,J,O,O,O,O] rfl rfl (one_of HT_.out (by kernel_rfl)) (by decide) (fun K hK => ?_)
              refine goes_ Try.func29 (by kernel_rfl) rfl #[.int .i64 ((rd_T50 ((rd_T44 l0_1 (rd ((rd_T44 l0_1 a1).f1) 0)).f15) x60_4).f1)] (by rfl) rfl rfl mapA ?_
              with_reducible refine (value_Zero.calls _ t322 t323 t324 _ A52.out).mono ?_
              rintro e w61 ⟨rfl, hb⟩
              refine ⟨_, rfl, ?_⟩
              have n0_ := Aside0.mk (Kd.S_below (by (with_reducible repeat (first | apply Kd.S_alloc | apply Kd.S_drewN | apply Kd.S_drew)); exact HO_8.out) hb)
              have n1_ := Aside0.mk (r_belowA HO_314001.out hb)
              have n2_ := Aside0.mk (blk_keepA BK306.out hb)
              have n3_ := Aside0.mk (blk_keepA BK311.out hb)
              have n4_ := Aside0.mk (blk_keepA BK313.out hb)
              have n5_ := Aside0.mk (blk_keepA BK320.out hb)
              have n6_ := Aside0.mk (below_stepA hb)
              clear HO_8
              clear HO_314001
              clear BK306
              clear BK311
              clear BK313
              clear BK320
              clear HB
              have HO_8 := n0_
              have HO_314001 := n1_
              have BK306 := n2_
              have BK311 := n3_
              have BK313 := n4_
              have BK320 := n5_
              have HB := n6_
              clear n0_ n1_ n2_ n3_ n4_ n5_ n6_
              (try clear hb)
              (try clear hb2)
              (try clear hk)
              (try clear hi)
              refine hK.out _ _ ⟨(blk_cell BK313.out 0).trans rfl, (blk_cell BK313.out 1).trans rfl, (blk_cell BK313.out 2).trans rfl, (blk_cell BK320.out 0).trans rfl, (blk_cell BK320.out 1).trans rfl, (blk_cell BK320.out 2).trans rfl⟩ (fun hHeld => ?_)
              clear hK K
              refine norm_ (a' := ?_) ?_ ?_
              rotate_left
              ·
               show Act.put _ (some 72) _ = _
               simp only [Act.put, List.setIfInBounds_toArray, List.set_cons_zero, List.set_cons_succ, i64_w, i32_w]
               rfl
              refine one_ (i := 5) (N := some 73) #[J,J,J,J,J,J,O,O,O] rfl rfl (one_of HT_.out (by kernel_rfl)) (by decide) (fun K hK => ?_)
              refine value_ (w1 := ?_) (v := ?_) (by rfl) rfl ?_ ?_
              rotate_left 2
              ·
               go_simp
               constructor
               ·
                rfl
               ·
                rfl
              refine hK.out _ _ ⟨(blk_cell (blk_alloc BK313.out _) 0).trans rfl, (blk_cell (blk_alloc BK313.out _) 1).trans rfl, (blk_cell (blk_alloc BK313.out _) 2).trans rfl, (blk_cell (blk_alloc BK320.out _) 0).trans rfl, (blk_cell (blk_alloc BK320.out _) 1).trans rfl, (blk_cell (blk_alloc BK320.out _) 2).trans rfl⟩ (fun hHeld => ?_)
              clear hK K
              refine norm_ (a' := ?_) ?_ ?_
              rotate_left
              ·
               show Act.put _ (some 73) _ = _
               simp only [Act.put, List.setIfInBounds_toArray, List.set_cons_zero, List.set_cons_succ, i64_w, i32_w]
               rfl
              refine one_ (i := 6) (N := some 74) #[J,J,J,J,J,J,J,O,O] rfl rfl (one_of HT_.out (by kernel_rfl)) (by decide) (fun K hK => ?_)
              refine Kd.R_append_step k70 (w0 := w) w.heap.size (by rfl) (.tmp 69) (.tmp 73) 53 70 (.agg #[(.int .i64 0), (.int .i64 0), (.string ⟨#[]⟩)]) 32 rfl Try.underlying53 info70 rfl (by decide) (by omega) u314001 x314001_4 (⟨t322, t323, t324⟩ : S70) [.int .i64 t322, .int .i64 t323, .string t324] (fun _ => True) (fun _ => False) rfl rfl ?aP (fun _ hk => hk.elim) ?aF ?aO ?aB ?aS ?aL ?_
              (case aP => exact k70_mkM _ _ _ (⟨t322, t323, t324⟩ : S70))
              (case aB => exact belowA)
              (case aF => exact (fun _ _ => trivial))
              (case aO => exact (by (with_reducible repeat (first | apply Kd.R_alloc | apply Kd.R_drewN | apply Kd.R_drew)); exact HO_314001.out))
              (case aS => exact below_sizeA)
              (case aL => have := LMc53.out; omega)
              intro v326 w62 ho hb hg hat
              rw [← Ny325.out] at ho
              have n0_ := Aside0.mk (Kd.S_after (ok := (fun k_ => k_ ≠ gb313)) (by (with_reducible repeat (first | apply Kd.S_alloc | apply Kd.S_drewN | apply Kd.S_drew)); exact Kd.S_mono HO_8.out (fun _ hk => ⟨hk.2, hk.1⟩)) hg hat)
              have n1_ := Aside0.mk (blk_grown (g := gb306) (o := .cells #[.slice A0_0 l0_0.length c0_0, .slice (some ad310) l0_1.length c0_1] 25 (0, 0)) (blk_move BK306.out) hg (Kd.R_ne HO_314001.out BK306.out (by decide)))
              have n2_ := Aside0.mk (blk_grown (g := gb311) (o := .cells (A44 (rd_T44 l0_1 a1) (some ad314) c310_1 A310_4 c310_4 A310_8 c310_8 A310_9 c310_9 A310_13 c310_13 A310_14 c310_14 A310_15 c310_15) 44 (0, 0)) (blk_move BK311.out) hg (Kd.R_ne HO_314001.out BK311.out (by decide)))
              have n3_ := Aside0.mk (blk_grown (g := gb313) (o := .cells #[.int .i64 (wrap64 (30001 * x44_3)), u314001, .int .i64 1] 55 (0, 0)) (blk_move BK313.out) hg (Kd.R_ne HO_314001.out BK313.out (by decide)))
              have n4_ := Aside0.mk (blk_grown (g := gb320) (o := .cells #[.string ((rd_T50 ((rd_T44 l0_1 (rd ((rd_T44 l0_1 a1).f1) 0)).f15) x60_4).f0), .int .i64 ((rd_T50 ((rd_T44 l0_1 (rd ((rd_T44 l0_1 a1).f1) 0)).f15) x60_4).f1), .string ((rd_T50 ((rd_T44 l0_1 (rd ((rd_T44 l0_1 a1).f1) 0)).f15) x60_4).f2)] 50 (0, 0)) (blk_move BK320.out) hg (Kd.R_ne HO_314001.out BK320.out (by decide)))
              have n5_ := Aside0.mk (hb)
              have n6_ := Aside0.mk (ho)
              clear HO_8
              clear BK306
              clear BK311
              clear BK313
              clear BK320
              clear HB
              clear HO_314001
              have HO_8 := n0_
              have BK306 := n1_
              have BK311 := n2_
              have BK313 := n3_
              have BK320 := n4_
              have HB := n5_
              have HO327 := n6_
              clear n0_ n1_ n2_ n3_ n4_ n5_ n6_
              clear ho hb hg hat
              obtain ⟨Ao63, co63, eo63⟩ := Kd.R_slice HO327.out
              (first | subst eo63 | (injection eo63 with f1_ f2_ f3_; have f4_ := f1_.symm; have f5_ := f3_.symm; clear f1_ f2_ f3_; subst f4_; subst f5_))
              refine hK.out _ _ ⟨(blk_cell BK313.out 0).trans rfl, (blk_cell BK313.out 1).trans rfl, (blk_cell BK313.out 2).trans rfl, (blk_cell BK320.out 0).trans rfl, (blk_cell BK320.out 1).trans rfl, (blk_cell BK320.out 2).trans rfl⟩ (fun hHeld => ?_)
              clear hK K
              refine norm_ (a' := ?_) ?_ ?_
              rotate_left
              ·
               show Act.put _ (some 74) _ = _
               simp only [Act.put, List.setIfInBounds_toArray, List.set_cons_zero, List.set_cons_succ, i64_w, i32_w]
               rfl
              refine pureA 7 75 #[J,J,J,J,J,J,J,J,O] ?_
              refine last_ (i := 8) (N := none) #[J,J,J,J,J,J,J,J,J] rfl rfl (one_of HT_.out (by kernel_rfl)) (by decide) (fun K hK => ?_)
              have hs64 : w62.cell? ⟨gb313, 1, none⟩ = some (u314001) := (blk_cell BK313.out 1).trans rfl
              have hfs64 := blk_frozen BK313.out 1
              have hns64_0 := NB306_313.out
              have hns64_1 := NB311_313.out
              have hns64_3 := NB320_313.out
              have hms64_0 := NB313_306.out
              have hms64_1 := NB313_311.out
              have hms64_3 := NB313_320.out
              refine skip_ (w1 := ?_) (by rfl) rfl ?_ ?_
              rotate_left
              ·
               go_simp
               rfl
              refine hK.out _ _ ?_
              clear hK K
              refine done_ (done_of HT_.out (by kernel_rfl)) ?_
              try go_wp2
              go_roundg k4
              case measure => have := HJ3.out; have := HJ21.out; have := HK3.out; have := HK4.out; omega
              case rel => exact ⟨(wrap64 (x60_4 + 1)), (y325), (.slice Ao63 y325.length co63), (by first | rfl | (simp; done) | (simp [*]; done)), H', ⟨by have := HJ3.out; have := HJ21.out; have := HK3.out; have := HK4.out; omega⟩, ⟨by (with_reducible repeat (first | apply Kd.S_alloc | apply Kd.S_drewN | apply Kd.S_drew)); exact Kd.S_mono (Kd.S_far (p := ⟨gb313, 1, none⟩) (Kd.S_mono HO_8.out (fun k_ hk => (⟨hk, hk.1⟩ : _ ∧ k_ ≠ gb313))) (fun _ hk => hk.2) (.slice Ao63 y325.length co63)) (fun _ hk => ⟨hk.1.2, hk.1.1⟩)⟩, ⟨by (with_reducible repeat (first | apply Kd.R_alloc | apply Kd.R_drewN | apply Kd.R_drew)); exact Kd.R_mono (Kd.R_far (p := ⟨gb313, 1, none⟩) (Kd.R_types HO327.out BK313.out (by decide)) (fun _ hk => hk.2) (.slice Ao63 y325.length co63)) (fun _ hk => trivial)⟩, ⟨blk_move BK306.out⟩, ⟨blk_move BK311.out⟩, ⟨blk_move BK313.out⟩, ⟨by repeat (first | (with_reducible first | exact HB.out | apply below_alloc | apply pw_below_drewN | apply below_drew1 | refine below_set ?_ GE306.out | refine below_set ?_ GE311.out | refine below_set ?_ GE313.out | refine below_set ?_ GE320.out) | exact HB.out)⟩⟩
             ·
              replace c51 := Bool.eq_false_iff.mpr c51
              subst c51
              rw [if_neg (show ¬ (false = true) by decide)] at H
              obtain rfl := Option.some.inj H
              have p319 : 0 ≤ (x60_4 : Int) := odA
              have q319 : x60_4 < (((rd_T44 l0_1 (rd ((rd_T44 l0_1 a1).f1) 0)).f15).length : Int) := odA
              obtain ⟨ad319, e319, hx319_0, hx319_1, hx319_2⟩ := at_T50 HR315_15.out x60_4 p319 q319
              cases e319
              replace hx319_0 := pw_cell_below HB.out hx319_0
              replace hx319_1 := pw_cell_below HB.out hx319_1
              replace hx319_2 := pw_cell_below HB.out hx319_2
              replace p319 := eq_true p319
              replace q319 := eq_true q319
              go_wp2_with (first | ((with_reducible refine gate_dst (N := 12) rfl ?_); (try (refine gate_guard (by rfl) ?_; dsimp only)); refine box_event ?hg (N := 12) ?hd (cs := #[.string (⟨#[]⟩ : ByteArray), .int .i64 0, .string (⟨#[]⟩ : ByteArray)]) (t := 50) ?hr ?_; (case hd => rfl); (case hg => rfl); (case hr => first | (go_simp; done) | (go_simp; rfl)); intro gb320 hg w65 hbox hb; have n0_ := Aside0.mk (Kd.S_below (by (with_reducible repeat (first | apply Kd.S_alloc | apply Kd.S_drewN | apply Kd.S_drew)); exact HO_8.out) hb); have n1_ := Aside0.mk (r_belowA HO_314001.out hb); have n2_ := Aside0.mk (blk_keepA BK306.out hb); have n3_ := Aside0.mk (blk_keepA BK311.out hb); have n4_ := Aside0.mk (blk_keepA BK313.out hb); have n5_ := Aside0.mk (below_stepA hb); have n6_ := Aside0.mk (hbox); have n7_ := Aside0.mk ((by rw [hg]; exact below_sizeA : w.heap.size ≤ gb320)); have n8_ := Aside0.mk ((by rw [hg]; exact below_sizeA : w.heap.size ≤ gb320)); have n9_ := Aside0.mk ((by rw [hg]; exact Nat.ne_of_lt (blk_ltKA BK306.out) : gb306 ≠ gb320)); have n10_ := Aside0.mk ((by rw [hg]; exact Nat.ne_of_gt (blk_ltKA BK306.out) : gb320 ≠ gb306)); have n11_ := Aside0.mk ((by rw [hg]; exact Nat.ne_of_lt (blk_ltKA BK311.out) : gb311 ≠ gb320)); have n12_ := Aside0.mk ((by rw [hg]; exact Nat.ne_of_gt (blk_ltKA BK311.out) : gb320 ≠ gb311)); have n13_ := Aside0.mk ((by rw [hg]; exact Nat.ne_of_lt (blk_ltKA BK313.out) : gb313 ≠ gb320)); have n14_ := Aside0.mk ((by rw [hg]; exact Nat.ne_of_gt (blk_ltKA BK313.out) : gb320 ≠ gb313)); clear HO_8; clear HO_314001; clear BK306; clear BK311; clear BK313; clear HB; have HO_8 := n0_; have HO_314001 := n1_; have BK306 := n2_; have BK311 := n3_; have BK313 := n4_; have HB := n5_; have BK320 := n6_; have GW320 := n7_; have GE320 := n8_; have NB306_320 := n9_; have NB320_306 := n10_; have NB311_320 := n11_; have NB320_311 := n12_; have NB313_320 := n13_; have NB320_313 := n14_; clear n0_ n1_ n2_ n3_ n4_ n5_ n6_ n7_ n8_ n9_ n10_ n11_ n12_ n13_ n14_; clear hb hbox hg; have hnb66 := NB320_306.out; have hnc66 := NB306_320.out; have hnb67 := NB320_311.out; have hnc67 := NB311_320.out; have hnb68 := NB320_313.out; have hnc68 := NB313_320.out; have hz69 := blk3 BK320.out) | ((with_reducible refine gate_callee (f := 28) rfl ?_); refine goesL_ (some 66) rfl rfl Try.func28 (by kernel_rfl) rfl #[.int .i64 ((rd_T50 ((rd_T44 l0_1 (rd ((rd_T44 l0_1 a1).f1) 0)).f15) x60_4).f1), .int .i64 0, .int .i64 2] rfl mapA ?_; (with_reducible refine (bounds_within.calls _ 0 2 false _ A50.out).mono ?_); rintro e w' ⟨rfl, ⟨nd, rfl⟩⟩; refine ⟨_, rfl, ?_⟩))
              go_ret
              exact ⟨_, by first | rfl | (simp [errW_none, errW_some] <;> rfl) | (simp [*, errW_none, errW_some] <;> rfl), by first | exact Kd.S_nil _ _ _ _ _ | exact Kd.N_nil _ _ _ _ _ | exact Kd.V_nil _ _ _ _ _ | exact Kd.Q_nil _ _ _ _ _ | exact Kd.R_nil _ _ _ _ _, belowA⟩
            ·
             rw [if_neg c47] at H
             have c47b0 : decide (x60_4 < (((rd_T44 l0_1 (rd ((rd_T44 l0_1 a1).f1) 0)).f15).length : Int)) = false := decide_eq_false c47
             clear c47
             by_cases c70 : x8_3.length < 3518437208883
             case neg => rw [if_neg c70] at H; exact absurd H (by simp)
             rw [if_pos c70] at H
             have LMc70 := Aside0.mk c70
             clear c70
             obtain ⟨y316, hy316⟩ : ∃ y_ : List (S55), y_ = (x8_3 ++ [(⟨(wrap64 (30001 * x44_3)), x314001_4, 1⟩ : S55)]) := ⟨_, rfl⟩
             replace H : (bounds_Witness.l0 k4 y316 a2 (wrap64 (x44_3 + 1)) l0_0 l0_1 ((rd_T44 l0_1 a1).f0) ((rd_T44 l0_1 a1).f1) ((rd_T44 l0_1 a1).f2) ((rd_T44 l0_1 a1).f3) ((rd_T44 l0_1 a1).f4) ((rd_T44 l0_1 a1).f5) ((rd_T44 l0_1 a1).f6) ((rd_T44 l0_1 a1).f7) ((rd_T44 l0_1 a1).f8) ((rd_T44 l0_1 a1).f9) ((rd_T44 l0_1 a1).f10) ((rd_T44 l0_1 a1).f11) ((rd_T44 l0_1 a1).f12) ((rd_T44 l0_1 a1).f13) ((rd_T44 l0_1 a1).f14) ((rd_T44 l0_1 a1).f15)) = some r := by first | (rw [hy316]; with_reducible exact H) | (have H2_ := (Option.bind_some _ _).symm.trans H; rw [hy316]; with_reducible exact H2_) | (have H2_ := (Option.bind_some _ _).symm.trans H; with_reducible exact H2_) | with_reducible exact H | (rw [hy316]; exact H) | exact H
             have Ny316 := Aside0.mk hy316
             clear hy316
             have H' := Aside0.mk H
             clear H
             have hnb71 := NB313_306.out
             have hnc71 := NB306_313.out
             have hnb72 := NB313_311.out
             have hnc72 := NB311_313.out
             have hz73 := blk3 BK313.out
             obtain ⟨Ao75, co75, eo75⟩ := Kd.R_slice HO_314001.out
             subst eo75
             go_wp2_with (first | ((with_reducible refine gate_builtin (b := .append) (xs := #[.tmp 77, .tmp 79]) rfl ?_); (try (refine gate_guard (by rfl) ?_; dsimp only)); at_builtin; refine Kd.S_append k55 (w0 := w) w.heap.size rfl (.tmp 77) (.tmp 79) 51 55 (.agg #[(.int .i64 0), (.slice none 0 0), (.int .i64 0)]) 40 rfl Try.underlying51 info55 rfl (by decide) (by omega) u8 x8_3 (⟨(wrap64 (30001 * x44_3)), x314001_4, 1⟩ : S55) [.int .i64 (wrap64 (30001 * x44_3)), .slice Ao75 x314001_4.length co75, .int .i64 1] (fun k_ => k_ ≠ gb313) (fun k_ => some k_ = (.slice Ao75 x314001_4.length co75 : Value).ownBlock) rfl rfl ?aP (fun k_ hk_ => ((Kd.R_mono (ok' := fun k_ => ((fun k_ => k_ ≠ gb313)) k_ ∧ some k_ ≠ (u8 : Value).ownBlock) (Kd.R_types (Kd.R_apart' (HO_314001.out) (Kd.S_typed HO_8.out) (by decide)) BK313.out (by decide)) (fun k_ hk => ⟨hk.2, hk.1.2⟩))).1 k_ hk_.symm) ?aF ?aO ?aB ?aS ?aL ?_; (case aP => exact k55_mkM _ _ _ (⟨(wrap64 (30001 * x44_3)), x314001_4, 1⟩ : S55) (Kd.R_mono (Kd.R_tight rfl (Kd.R_mono (ok' := fun k_ => ((fun k_ => k_ ≠ gb313)) k_ ∧ some k_ ≠ (u8 : Value).ownBlock) (Kd.R_types (Kd.R_apart' (HO_314001.out) (Kd.S_typed HO_8.out) (by decide)) BK313.out (by decide)) (fun k_ hk => ⟨hk.2, hk.1.2⟩))) (fun _ h_ => h_))); (case aB => exact belowA); (case aF => exact (fun k_ hk => Kd.freshB (g := gb313) (o := .cells #[.int .i64 (wrap64 (30001 * x44_3)), .slice Ao75 x314001_4.length co75, .int .i64 1] 55 (0, 0)) (blk_move BK313.out) k_ hk)); (case aO => exact (by (with_reducible repeat (first | apply Kd.S_alloc | apply Kd.S_drewN | apply Kd.S_drew)); exact Kd.S_mono HO_8.out (fun k_ hk => ⟨hk.2, fun e_ => hk.1 e_⟩))); (case aS => exact below_sizeA); (case aL => have := LMc70.out; omega); intro v317 w74 ho hb hg hat; rw [← Ny316.out] at ho; have n0_ := Aside0.mk (blk_grown (g := gb306) (o := .cells #[.slice A0_0 l0_0.length c0_0, .slice (some ad310) l0_1.length c0_1] 25 (0, 0)) (blk_move BK306.out) hg (Kd.S_ne HO_8.out BK306.out (by decide))); have n1_ := Aside0.mk (blk_grown (g := gb311) (o := .cells (A44 (rd_T44 l0_1 a1) (some ad314) c310_1 A310_4 c310_4 A310_8 c310_8 A310_9 c310_9 A310_13 c310_13 A310_14 c310_14 A310_15 c310_15) 44 (0, 0)) (blk_move BK311.out) hg (Kd.S_ne HO_8.out BK311.out (by decide))); have n2_ := Aside0.mk (blk_grown (g := gb313) (o := .cells #[.int .i64 (wrap64 (30001 * x44_3)), .slice Ao75 x314001_4.length co75, .int .i64 1] 55 (0, 0)) (blk_move BK313.out) hg (Kd.S_away HO_8.out (fun _ hk => hk.2))); have n3_ := Aside0.mk (hb); have n4_ := Aside0.mk (ho); clear BK306; clear BK311; clear BK313; clear HB; clear HO_8; clear HO_314001; have BK306 := n0_; have BK311 := n1_; have BK313 := n2_; have HB := n3_; have HO318 := n4_; clear n0_ n1_ n2_ n3_ n4_; clear ho hb hg hat))
             go_roundg k4
             case measure => have := HJ3.out; have := HJ21.out; have := HK3.out; have := HK4.out; omega
             case rel => exact ⟨(y316), (wrap64 (x44_3 + 1)), (by first | rfl | (simp; done) | (simp [*]; done)), H', ⟨by have := HJ3.out; have := HJ21.out; have := HK3.out; have := HK4.out; omega⟩, ⟨by (with_reducible repeat (first | apply Kd.S_alloc | apply Kd.S_drewN | apply Kd.S_drew)); exact Kd.S_mono HO318.out (fun _ hk => trivial)⟩, ⟨blk_move BK306.out⟩, ⟨blk_move BK311.out⟩, ⟨by repeat (first | (with_reducible first | exact HB.out | apply below_alloc | apply pw_below_drewN | apply below_drew1 | refine below_set ?_ GE306.out | refine below_set ?_ GE311.out | refine below_set ?_ GE313.out) | exact HB.out)⟩⟩
         ·
          rw [if_neg c37] at H
          have c37b0 : decide (x44_3 < a2) = false := decide_eq_false c37
          clear c37
          obtain rfl := Option.some.inj H
          go_wp2
          go_ret
          exact ⟨_, by first | rfl | (simp [errW_none, errW_some] <;> rfl) | (simp [*, errW_none, errW_some] <;> rfl), by (with_reducible repeat (first | apply Kd.S_alloc | apply Kd.S_drewN | apply Kd.S_drew)); exact HO_8.out, belowA⟩

end Go.Proofs.Yteoljddobfnfiaa.PB
end
section
namespace Go.Proofs.Yteoljddobfnfiaa.PB
open Go.RowKit Go.Proofs.YteoljddobfnfiaaW.PrintWords Go.Proofs.YteoljddobfnfiaaW.PrintLast Go.Proofs.YteoljddobfnfiaaW.PrintMore
attribute [local go_sem] max2_int min2_int max_two min_two max_three min_three max_four min_four
attribute [local go_sem ↓ high] Go.Proofs.Yteoljddobfnfiaa.My.ld44_eq Go.Proofs.Yteoljddobfnfiaa.My.st44_eq Go.Proofs.Yteoljddobfnfiaa.My.ld27_eq Go.Proofs.Yteoljddobfnfiaa.My.st27_eq Go.Proofs.Yteoljddobfnfiaa.My.ld37_eq Go.Proofs.Yteoljddobfnfiaa.My.st37_eq Go.Proofs.Yteoljddobfnfiaa.My.ld65_eq Go.Proofs.Yteoljddobfnfiaa.My.st65_eq
attribute [local go_sem high] Go.Proofs.Yteoljddobfnfiaa.My.ld44_run Go.Proofs.Yteoljddobfnfiaa.My.st44_run Go.Proofs.Yteoljddobfnfiaa.My.ld27_run Go.Proofs.Yteoljddobfnfiaa.My.st27_run Go.Proofs.Yteoljddobfnfiaa.My.ld37_run Go.Proofs.Yteoljddobfnfiaa.My.st37_run Go.Proofs.Yteoljddobfnfiaa.My.ld65_run Go.Proofs.Yteoljddobfnfiaa.My.st65_run
open Go.Proofs.Yteoljddobfnfiaa.My
attribute [local go_sem] cell_map run_store_fnV one_int one_bool one_string one_slice one_fnV
set_option linter.unusedVariables false
set_option linter.unusedSimpArgs false

theorem eqA70 (d : Nat) (w : World) (x0 y0 : Int) (x1 y1 : Int) (x2 y2 : ByteArray) :
    (Op.equalIn (d + 2) 70 (.agg #[.int .i64 x0, .int .i64 x1, .string x2]) (.agg #[.int .i64 y0, .int .i64 y1, .string y2])).run Try.prog w = .ok (x0 == y0 && (x1 == y1 && (x2.toList == y2.toList))) w := by
  refine eqA_of Try.underlying70 (by kernel_rfl) ?_
  refine eqf_cons (by rfl) (by go_simp; rfl) (by go_simp; rfl) (by go_simp) ?_
  refine eqf_cons (by rfl) (by go_simp; rfl) (by go_simp; rfl) (by go_simp) ?_
  exact eqf_last (by rfl) (by go_simp; rfl) (by go_simp; rfl) (by go_simp)
end Go.Proofs.Yteoljddobfnfiaa.PB
end
section
namespace Go.Proofs.Yteoljddobfnfiaa.Pure
open Go.RowKit Go.Proofs.YteoljddobfnfiaaW.PrintWords Go.Proofs.YteoljddobfnfiaaW.PrintLast Go.Proofs.YteoljddobfnfiaaW.PrintMore Go.Proofs.Yteoljddobfnfiaa.PB
set_option linter.unusedVariables false
set_option linter.unusedSimpArgs false

theorem rd50_at {l : List S50} {i : Nat} (h : i < l.length) : rd_T50 l (i : Int) = l[i] := by
  unfold rd_T50
  rw [Int.toNat_natCast, List.getD_eq_getElem?_getD, List.getElem?_eq_getElem h, Option.getD_some]
theorem rd55_at {l : List S55} {i : Nat} (h : i < l.length) : rd_T55 l (i : Int) = l[i] := by
  unfold rd_T55
  rw [Int.toNat_natCast, List.getD_eq_getElem?_getD, List.getElem?_eq_getElem h, Option.getD_some]
def typed (c : S50) : Bool := decide (0 ≤ c.f1 ∧ c.f1 ≤ 2)
def zeroOf (c : S50) : S70 := ⟨c.f1, 0, ⟨#[]⟩⟩
def rowsFrom (cols : List S50) : Nat → Nat → List S55
  | _, 0 => []
  | i, d + 1 => ⟨30001 * (i : Int), cols.map zeroOf, 1⟩ :: rowsFrom cols (i + 1) d
def rowsOf (cols : List S50) (n : Nat) : List S55 := if cols.all typed then rowsFrom cols 0 n else []
theorem Zero_eq (k : Int) : value_Zero.f k = some (k, 0, (⟨#[]⟩ : ByteArray)) := rfl

section
variable (l : List S44) (F : List S95) (x : S44) (cols : List S50) (hc : cols.length ≤ 20)
include hc
theorem wit_l1 (acc : List S55) (m i : Int) (t : Int) (R : List S55) (hR : Ev (fun k => if acc.length < 3518437208883 then (bounds_Witness.l0 k (acc ++ [(⟨t, cols.map zeroOf, 1⟩ : S55)]) m (wrap64 (i + 1)) F l x.f0 x.f1 x.f2 x.f3 x.f4 x.f5 x.f6 x.f7 x.f8 x.f9 x.f10 x.f11 x.f12 x.f13 x.f14 x.f15) else none) R) :
    ∀ d j : Nat, j + d = cols.length →
    Ev (fun k => bounds_Witness.l1 k acc m i cols (cols.length : Int) (j : Int) F l x.f0 x.f1 x.f2 x.f3 x.f4 x.f5 x.f6 x.f7 x.f8 x.f9 x.f10 x.f11 x.f12 x.f13 x.f14 x.f15 t ((cols.take j).map zeroOf) 1) (if (cols.drop j).all typed then R else [])
  | 0, j, hj => by
    rw [List.drop_of_length_le (by omega), List.all_nil, if_pos rfl, List.take_of_length_le (by omega)]
    refine Ev.step (fun k => ?_) hR
    simp only [bounds_Witness.l1]
    rw [if_neg (by omega)]
  | d + 1, j, hj => by
    have hjl : j < cols.length := by omega
    have e : cols.drop j = cols[j] :: cols.drop (j + 1) := List.drop_eq_getElem_cons hjl
    rw [e, List.all_cons]
    by_cases ht : 0 ≤ cols[j].f1 ∧ cols[j].f1 ≤ 2
    · have e1 : typed cols[j] = true := decide_eq_true ht
      rw [e1, Bool.true_and]
      have ih := wit_l1 acc m i t R hR d (j + 1) (by omega)
      refine Ev.step (fun k => ?_) ih
      simp only [bounds_Witness.l1]
      rw [if_pos (by omega), if_pos (by omega), if_pos (by omega), rd50_at hjl, within_eq, Option.bind_some, if_pos (decide_eq_true ht), Zero_eq, Option.bind_some, if_pos (by rw [List.length_map, List.length_take]; omega), wrap_id (n := (j : Int) + 1) (by omega) (by omega), cast_succ]
      rw [List.take_succ_eq_append_getElem hjl, List.map_append]
      rfl
    · have e1 : typed cols[j] = false := decide_eq_false ht
      rw [e1, Bool.false_and, if_neg (by decide)]
      refine Ev.step (f := fun _ => some []) (fun k => ?_) (Ev.now _)
      simp only [bounds_Witness.l1]
      rw [if_pos (by omega), if_pos (by omega), if_pos (by omega), rd50_at hjl, within_eq, Option.bind_some, if_neg (by rw [decide_eq_false ht]; decide)]
theorem wit_l0 (n : Nat) (hn : n ≤ 1000) (hx : x.f1 ≠ []) (h0 : 0 ≤ rd x.f1 0) (h1 : rd x.f1 0 < (l.length : Int)) (he : (rd_T44 l (rd x.f1 0)).f15 = cols) : ∀ d i : Nat, i + d = n → ∀ acc : List S55, acc.length = i →
    Ev (fun k => bounds_Witness.l0 k acc (n : Int) (i : Int) F l x.f0 x.f1 x.f2 x.f3 x.f4 x.f5 x.f6 x.f7 x.f8 x.f9 x.f10 x.f11 x.f12 x.f13 x.f14 x.f15) (if d = 0 then acc else if cols.all typed then acc ++ rowsFrom cols i d else [])
  | 0, i, hi, acc, ha => by
    rw [if_pos rfl]
    refine Ev.step (f := fun _ => some acc) (fun k => ?_) (Ev.now _)
    simp only [bounds_Witness.l0]
    rw [if_neg (by omega)]
  | d + 1, i, hi, acc, ha => by
    rw [if_neg (by omega)]
    have hlx : 0 < (x.f1.length : Int) := by
      have : x.f1.length ≠ 0 := fun h => hx (List.length_eq_zero_iff.1 h)
      omega
    have ih := wit_l0 n hn hx h0 h1 he d (i + 1) (by omega) (acc ++ [(⟨30001 * (i : Int), cols.map zeroOf, 1⟩ : S55)]) (by rw [List.length_append, List.length_singleton, ha])
    have hR : Ev (fun k => if acc.length < 3518437208883 then (bounds_Witness.l0 k (acc ++ [(⟨30001 * (i : Int), cols.map zeroOf, 1⟩ : S55)]) (n : Int) (wrap64 ((i : Int) + 1)) F l x.f0 x.f1 x.f2 x.f3 x.f4 x.f5 x.f6 x.f7 x.f8 x.f9 x.f10 x.f11 x.f12 x.f13 x.f14 x.f15) else none) (if d = 0 then acc ++ [(⟨30001 * (i : Int), cols.map zeroOf, 1⟩ : S55)] else if cols.all typed then acc ++ [(⟨30001 * (i : Int), cols.map zeroOf, 1⟩ : S55)] ++ rowsFrom cols (i + 1) d else []) := by
      refine Ev.congr (fun k => ?_) ih
      rw [if_pos (by omega), wrap_id (n := (i : Int) + 1) (by omega) (by omega), cast_succ]
    have hw := wit_l1 l F x cols hc acc (n : Int) (i : Int) (30001 * (i : Int)) _ hR cols.length 0 (by omega)
    rw [List.drop_zero] at hw
    have e2 : (if cols.all typed = true then (if d = 0 then acc ++ [(⟨30001 * (i : Int), cols.map zeroOf, 1⟩ : S55)] else if cols.all typed then acc ++ [(⟨30001 * (i : Int), cols.map zeroOf, 1⟩ : S55)] ++ rowsFrom cols (i + 1) d else []) else []) = (if cols.all typed then acc ++ rowsFrom cols i (d + 1) else []) := by
      by_cases ht : cols.all typed = true
      · rw [if_pos ht, if_pos ht, if_pos ht, rowsFrom]
        by_cases hd : d = 0
        · subst hd
          rw [if_pos rfl]
          rfl
        · rw [if_neg hd, List.append_assoc]
          rfl
      · rw [if_neg ht, if_neg ht]
    rw [e2] at hw
    refine Ev.step (fun k => ?_) hw
    simp only [bounds_Witness.l0]
    rw [if_pos (by omega), if_pos hlx, if_pos h0, if_pos h1, he, wrap_id (n := 30001 * (i : Int)) (by omega) (by omega)]
    rfl
end
def witness (l : List S44) (node n : Int) : List S55 :=
  if well l = true ∧ (0 ≤ node ∧ node < (l.length : Int)) ∧ 1 ≤ n ∧ n ≤ 1000 then
    if bdd (rd_T44 l node) = true ∨ (rd_T44 l node).f1 = [] then [] else rowsOf (rd_T44 l (rd (rd_T44 l node).f1 0)).f15 n.toNat
  else []
theorem well_in {l : List S44} (hw : well l = true) {node : Int} (h : 0 ≤ node ∧ node < (l.length : Int)) (hx : (rd_T44 l node).f1 ≠ []) : 0 ≤ rd (rd_T44 l node).f1 0 ∧ rd (rd_T44 l node).f1 0 < (l.length : Int) := by
  have e : ((node.toNat : Nat) : Int) = node := Int.toNat_of_nonneg h.1
  have hl : node.toNat < l.length := by omega
  rw [← e, rd44_at hl] at hx ⊢
  have hok := okFrom_at l 0 (well_len hw).1 node.toNat hl
  obtain ⟨m1, m2, m3⟩ := node_ins hok
  have := in_at m3 (j := 0) (by cases h : l[node.toNat].f1 with | nil => exact absurd h hx | cons a b => simp)
  rw [show ((0 : Nat) : Int) = 0 from rfl] at this
  omega
section
variable (l : List S44) (F : List S95) (hl : l.length ≤ 9223372036854775807) (hin : ∀ n ∈ l, n.f1.length ≤ 9223372036854775807) (hcols : ∀ n ∈ l, n.f15.length ≤ 20) (node n : Int)
theorem rd44_mem {l : List S44} {i : Int} (h0 : 0 ≤ i) (h1 : i < (l.length : Int)) : rd_T44 l i ∈ l := by
  have e : ((i.toNat : Nat) : Int) = i := Int.toNat_of_nonneg h0
  rw [← e, rd44_at (by omega)]
  exact List.getElem_mem _
include hl hin hcols
theorem Witness_ev : Ev (fun k => bounds_Witness.f k F l node n) (witness l node n) := by
  have hno : Ev (fun k => bounds_Witness.j0 k node n true F l) [] := by
    refine Ev.step (f := fun _ => some []) (fun k => ?_) (Ev.now _)
    simp only [bounds_Witness.j0, if_true]
  unfold witness
  refine Ev.congr (fun k => by unfold bounds_Witness.f; rfl) (Ev.bind (Well_ev l F hl hin) ?_)
  by_cases hw : well l = true
  · have hww := well_len hw
    by_cases hn : 0 ≤ node ∧ node < (l.length : Int)
    · by_cases hm : 1 ≤ n ∧ n ≤ 1000
      · rw [if_pos ⟨hw, hn, hm⟩]
        have hf : ∀ (x : S44) (b : Bool), b = true → Ev (fun k => bounds_Witness.j1 k n b F l x.f0 x.f1 x.f2 x.f3 x.f4 x.f5 x.f6 x.f7 x.f8 x.f9 x.f10 x.f11 x.f12 x.f13 x.f14 x.f15) [] := by
          rintro x b rfl
          refine Ev.step (f := fun _ => some []) (fun k => ?_) (Ev.now _)
          simp only [bounds_Witness.j1, if_true]
        refine Ev.congr (f := fun k => bounds_Witness.j0 k node n false F l) (fun k => ?_) ?_
        · rw [if_pos hw, within_eq, Option.bind_some, wrap_id (n := (l.length : Int) - 1) (by omega) (by omega), if_pos (decide_eq_true (by omega)), within_eq, Option.bind_some, decide_eq_true hm]
          rfl
        by_cases hb : bdd (rd_T44 l node) = true
        · rw [if_pos (Or.inl hb)]
          refine Ev.step (fun k => ?_) (hf (rd_T44 l node) true rfl)
          simp only [bounds_Witness.j0, Bool.false_eq_true, if_false]
          rw [if_pos hn.1, if_pos hn.2, Bounded_eq, Option.bind_some, if_pos hb]
        have hstep : ∀ k, bounds_Witness.j0 (k + 1) node n false F l = bounds_Witness.j1 k n ((((rd_T44 l node).f1).length : Int) == 0) F l (rd_T44 l node).f0 (rd_T44 l node).f1 (rd_T44 l node).f2 (rd_T44 l node).f3 (rd_T44 l node).f4 (rd_T44 l node).f5 (rd_T44 l node).f6 (rd_T44 l node).f7 (rd_T44 l node).f8 (rd_T44 l node).f9 (rd_T44 l node).f10 (rd_T44 l node).f11 (rd_T44 l node).f12 (rd_T44 l node).f13 (rd_T44 l node).f14 (rd_T44 l node).f15 := by
          intro k
          simp only [bounds_Witness.j0, Bool.false_eq_true, if_false]
          rw [if_pos hn.1, if_pos hn.2, Bounded_eq, Option.bind_some, if_neg hb]
        by_cases hx : (rd_T44 l node).f1 = []
        · rw [if_pos (Or.inr hx)]
          refine Ev.step hstep (hf (rd_T44 l node) _ (by rw [hx]; rfl))
        rw [if_neg (fun h => h.elim hb hx)]
        obtain ⟨h0, h1⟩ := well_in hw hn hx
        have hl0 := wit_l0 l F (rd_T44 l node) (rd_T44 l (rd (rd_T44 l node).f1 0)).f15 (hcols _ (rd44_mem h0 h1)) n.toNat (by omega) hx h0 h1 rfl n.toNat 0 (by omega) [] rfl
        rw [if_neg (by omega), List.nil_append, Int.toNat_of_nonneg (by omega)] at hl0
        refine Ev.step hstep (Ev.step (fun k => ?_) hl0)
        have hz : ((((rd_T44 l node).f1).length : Int) == 0) = false := beq_eq_false_iff_ne.2 (fun h => hx (List.length_eq_zero_iff.1 (by omega)))
        simp only [bounds_Witness.j1]
        rw [hz, if_neg (by decide)]
        rfl
      · rw [if_neg (fun h => hm h.2.2)]
        refine Ev.congr (fun k => ?_) hno
        rw [if_pos hw, within_eq, Option.bind_some, wrap_id (n := (l.length : Int) - 1) (by omega) (by omega), if_pos (decide_eq_true (by omega)), within_eq, Option.bind_some, decide_eq_false hm]
        rfl
    · rw [if_neg (fun h => hn h.2.1)]
      refine Ev.congr (fun k => ?_) hno
      rw [if_pos hw, within_eq, Option.bind_some, wrap_id (n := (l.length : Int) - 1) (by omega) (by omega), if_neg (by rw [decide_eq_true_eq]; omega)]
  · rw [if_neg (fun h => hw h.1)]
    exact Ev.congr (fun k => by rw [if_neg hw]) hno
end
theorem rowsFrom_len (cols : List S50) : ∀ d i : Nat, (rowsFrom cols i d).length = d ∧ ∀ r ∈ rowsFrom cols i d, r.f1.length = cols.length
  | 0, i => ⟨rfl, fun r hr => by cases hr⟩
  | d + 1, i => by
    obtain ⟨h1, h2⟩ := rowsFrom_len cols d (i + 1)
    refine ⟨by rw [rowsFrom, List.length_cons, h1], fun r hr => ?_⟩
    rw [rowsFrom] at hr
    rcases List.mem_cons.1 hr with rfl | hr
    · simp
    · exact h2 r hr
def bad (x : S44) : S44 := ⟨x.f0, x.f1, x.f2, x.f3, x.f4, x.f5, -1, -1, x.f8, x.f9, -1, -1, -1, x.f13, x.f14, x.f15⟩
theorem bad_bdd (x : S44) (h : 3 < x.f0) : bdd (bad x) = false := by
  unfold bdd bad
  dsimp only
  rw [if_neg (by omega)]
  repeat' split
  all_goals first | rfl | (simp; done) | (simp; omega) | skip
theorem bdd_low (x : S44) (h : 0 ≤ x.f0 ∧ x.f0 ≤ 3) : bdd x = true := by
  unfold bdd
  rw [if_pos (by omega)]
theorem own_low (x : S44) (h : 0 ≤ x.f0 ∧ x.f0 ≤ 3) : ownB x = 0 ∧ ownF x = 0 := by
  unfold ownB ownF
  constructor
  · repeat' split
    all_goals first | rfl | omega
  · repeat' split
    all_goals first | rfl | omega
theorem bad_bound (x : S44) (h : 0 ≤ x.f0 ∧ x.f0 ≤ 3) (bs : List S37) (c0 c4 c5 : Int) : boundOf bs c0 c4 c5 (bad x) = boundOf bs c0 c4 c5 x := by
  have a := own_low x h
  have b := own_low (bad x) h
  have hr : rateOf bs c0 c4 (bad x) = rateOf bs c0 c4 x := by
    unfold rateOf
    show (if x.f0 = 0 then _ else if x.f0 = 3 then _ else if x.f0 = 4 ∨ x.f0 = 5 then _ else if x.f0 = 6 then _ else _) = _
    rw [if_neg (c := x.f0 = 4 ∨ x.f0 = 5) (by omega), if_neg (c := x.f0 = 4 ∨ x.f0 = 5) (by omega), if_neg (c := x.f0 = 6) (by omega), if_neg (c := x.f0 = 6) (by omega)]
    rfl
  unfold boundOf
  rw [hr, a.1, a.2, b.1, b.2]
  show (⟨_, _, _, if 4 ≤ x.f0 then _ else 0⟩ : S37) = ⟨_, _, _, if 4 ≤ x.f0 then _ else 0⟩
  rw [if_neg (by omega), if_neg (by omega)]
  rfl
theorem okFrom_set : ∀ (l : List S44) (i : Int) (k : Nat) (hk : k < l.length) (y : S44), y.f0 = l[k].f0 → y.f1 = l[k].f1 → okFrom i (l.set k y) = okFrom i l
  | [], _, k, hk, _, _, _ => absurd hk (Nat.not_lt_zero k)
  | n :: l, i, 0, hk, y, h0, h1 => by
    rw [List.set_cons_zero, okFrom, okFrom]
    unfold okNode
    simp only [List.getElem_cons_zero] at h0 h1
    rw [h0, h1]
  | n :: l, i, k + 1, hk, y, h0, h1 => by
    rw [List.set_cons_succ, okFrom, okFrom, okFrom_set l (i + 1) k (by simpa using hk) y (by simpa using h0) (by simpa using h1)]
theorem well_set {l : List S44} {k : Nat} (hk : k < l.length) : well (l.set k (bad l[k])) = well l := by
  unfold well
  rw [okFrom_set l 0 k hk (bad l[k]) rfl rfl, List.length_set]
theorem ana_low {c0 c4 c5 : Int} : ∀ (l : List S44) (i : Int) (bs : List S37) (k : Nat) (hk : k < l.length), 0 ≤ l[k].f0 ∧ l[k].f0 ≤ 3 → ana c0 c4 c5 i bs (l.set k (bad l[k])) = ana c0 c4 c5 i bs l
  | [], _, _, k, hk, _ => absurd hk (Nat.not_lt_zero k)
  | n :: l, i, bs, 0, hk, h => by
    simp only [List.getElem_cons_zero] at h ⊢
    rw [List.set_cons_zero, ana, ana, bad_bound n h, bdd_low n h, bdd_low (bad n) h]
  | n :: l, i, bs, k + 1, hk, h => by
    simp only [List.getElem_cons_succ] at h ⊢
    rw [List.set_cons_succ, ana, ana]
    by_cases hb : bdd n = true
    · rw [if_pos hb, if_pos hb]
      by_cases hm : 1099511627776 ≤ (boundOf bs c0 c4 c5 n).f2 ∨ 1099511627776 ≤ (boundOf bs c0 c4 c5 n).f3
      · rw [if_pos hm, if_pos hm]
      · rw [if_neg hm, if_neg hm]
        exact ana_low l _ _ k (by simpa using hk) h
    · rw [if_neg hb, if_neg hb]
theorem ana_bad {c0 c4 c5 : Int} : ∀ (l : List S44) (i : Int) (bs R : List S37) (e : Int) (k : Nat) (hk : k < l.length), 3 < l[k].f0 → ana c0 c4 c5 i bs l = (R, e, 0) → ana c0 c4 c5 i bs (l.set k (bad l[k])) = ([], i + (k : Int), 14)
  | [], _, _, _, _, k, hk, _, _ => absurd hk (Nat.not_lt_zero k)
  | n :: l, i, bs, R, e, 0, hk, h, ha => by
    simp only [List.getElem_cons_zero] at h ⊢
    rw [List.set_cons_zero, ana, bad_bdd n h, if_neg (by decide)]
    simp
  | n :: l, i, bs, R, e, k + 1, hk, h, ha => by
    simp only [List.getElem_cons_succ] at h ⊢
    rw [ana] at ha
    rw [List.set_cons_succ, ana]
    by_cases hb : bdd n = true
    · rw [if_pos hb] at ha ⊢
      by_cases hm : 1099511627776 ≤ (boundOf bs c0 c4 c5 n).f2 ∨ 1099511627776 ≤ (boundOf bs c0 c4 c5 n).f3
      · rw [if_pos hm] at ha
        simp at ha
      · rw [if_neg hm] at ha ⊢
        rw [ana_bad l _ _ R e k (by simpa using hk) h ha]
        have : i + 1 + (k : Int) = i + ((k + 1 : Nat) : Int) := by omega
        rw [this]
    · rw [if_neg hb] at ha
      simp at ha
theorem analyze_low {l : List S44} {c0 c1 c2 c3 c4 c5 : Int} {k : Nat} (hk : k < l.length) (h : 0 ≤ l[k].f0 ∧ l[k].f0 ≤ 3) : analyze (l.set k (bad l[k])) c0 c1 c2 c3 c4 c5 = analyze l c0 c1 c2 c3 c4 c5 := by
  unfold analyze
  rw [well_set hk, ana_low l 0 [] k hk h]
theorem analyze_bad {l : List S44} {c0 c1 c2 c3 c4 c5 : Int} {k : Nat} (hk : k < l.length) (h : 3 < l[k].f0) (ha : (analyze l c0 c1 c2 c3 c4 c5).2.2 = 0) : analyze (l.set k (bad l[k])) c0 c1 c2 c3 c4 c5 = ([], (k : Int), 14) := by
  have A : Acc l c0 c1 c2 c3 c4 c5 (analyze l c0 c1 c2 c3 c4 c5).1 := analyze_acc (e := (analyze l c0 c1 c2 c3 c4 c5).2.1) (by rw [← ha])
  have hx : analyze l c0 c1 c2 c3 c4 c5 = ana c0 c4 c5 0 [] l := by unfold analyze; rw [if_pos ⟨A.right, A.well⟩]
  rw [hx] at ha
  unfold analyze
  rw [well_set hk, if_pos ⟨A.right, A.well⟩, ana_bad l 0 [] (ana c0 c4 c5 0 [] l).1 (ana c0 c4 c5 0 [] l).2.1 k hk h (Prod.ext rfl (Prod.ext rfl ha)), Int.zero_add]
theorem rowsFrom_at (cols : List S50) : ∀ (d i j : Nat) (h : j < (rowsFrom cols i d).length), (rowsFrom cols i d)[j] = ⟨30001 * ((i + j : Nat) : Int), cols.map zeroOf, 1⟩
  | 0, i, j, h => by simp [rowsFrom] at h
  | d + 1, i, 0, h => by simp [rowsFrom]
  | d + 1, i, j + 1, h => by
    simp only [rowsFrom, List.getElem_cons_succ]
    rw [rowsFrom_at cols d (i + 1) j (by simpa [rowsFrom] using h), show i + 1 + j = i + (j + 1) by omega]
theorem set_cols {l : List S44} {k : Nat} (hk : k < l.length) {i : Int} (h0 : 0 ≤ i) (h1 : i < (l.length : Int)) : (rd_T44 (l.set k (bad l[k])) i).f15 = (rd_T44 l i).f15 := by
  have e : ((i.toNat : Nat) : Int) = i := Int.toNat_of_nonneg h0
  rw [← e, rd44_at (by rw [List.length_set]; omega), rd44_at (by omega), List.getElem_set]
  split
  · rename_i h
    subst h
    rfl
  · rfl
theorem witness_bad {l : List S44} (hw : well l = true) {k : Nat} (hk : k < l.length) (h : 3 < l[k].f0) {n : Int} (hn : 1 ≤ n ∧ n ≤ 100) :
    (0 < l[k].f1.length) ∧ (0 ≤ rd l[k].f1 0 ∧ rd l[k].f1 0 < (l.length : Int)) ∧ witness (l.set k (bad l[k])) (k : Int) n = rowsOf (rd_T44 l (rd l[k].f1 0)).f15 n.toNat := by
  have hok := okFrom_at l 0 (well_len hw).1 k hk
  obtain ⟨m1, m2, m3⟩ := node_ins hok
  have hp := ins1 m2 (by omega)
  have ha := in_at m3 hp
  rw [show ((0 : Nat) : Int) = 0 from rfl] at ha
  have hl : (k : Int) < ((l.set k (bad l[k])).length : Int) := by rw [List.length_set]; omega
  have e : rd_T44 (l.set k (bad l[k])) (k : Int) = bad l[k] := by rw [rd44_at (by rw [List.length_set]; exact hk), List.getElem_set_self]
  refine ⟨hp, ⟨ha.1, by omega⟩, ?_⟩
  unfold witness
  rw [if_pos ⟨by rw [well_set hk]; exact hw, ⟨by omega, hl⟩, by omega, by omega⟩, e, if_neg (by
    rintro (q | q)
    · rw [bad_bdd _ h] at q; cases q
    · have q2 : l[k].f1 = [] := q
      rw [q2] at hp; simp at hp), show (bad l[k]).f1 = l[k].f1 from rfl, set_cols hk ha.1 (by omega)]
theorem few_cols13 {l : List S44} (h : few l = true) : ∀ n ∈ l, n.f15.length ≤ 20 := by
  unfold few at h
  intro n hn
  have := List.all_eq_true.1 (Bool.and_eq_true_iff.1 h).1 n hn
  unfold fewN at this
  simp only [Bool.and_eq_true, decide_eq_true_eq] at this
  omega
end Go.Proofs.Yteoljddobfnfiaa.Pure
end
