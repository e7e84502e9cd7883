/- Part 4 of a proof: texts of this claim, joined by a program of this session's work; what is proved stands in the last part. No condition. -/
import Derived.Test.YteoljddobfnfiaaKC3
section
namespace Go.Proofs.Yteoljddobfnfiaa.PB
open Go.RowKit Go.Proofs.YteoljddobfnfiaaW.PrintWords Go.Proofs.YteoljddobfnfiaaW.PrintLast Go.Proofs.YteoljddobfnfiaaW.PrintMore
attribute [local go_sem] max2_int min2_int max_two min_two max_three min_three max_four min_four
attribute [local go_sem ↓ high] Go.Proofs.Yteoljddobfnfiaa.My.ld44_eq Go.Proofs.Yteoljddobfnfiaa.My.st44_eq Go.Proofs.Yteoljddobfnfiaa.My.ld27_eq Go.Proofs.Yteoljddobfnfiaa.My.st27_eq Go.Proofs.Yteoljddobfnfiaa.My.ld37_eq Go.Proofs.Yteoljddobfnfiaa.My.st37_eq Go.Proofs.Yteoljddobfnfiaa.My.ld65_eq Go.Proofs.Yteoljddobfnfiaa.My.st65_eq
attribute [local go_sem high] Go.Proofs.Yteoljddobfnfiaa.My.ld44_run Go.Proofs.Yteoljddobfnfiaa.My.st44_run Go.Proofs.Yteoljddobfnfiaa.My.ld27_run Go.Proofs.Yteoljddobfnfiaa.My.st27_run Go.Proofs.Yteoljddobfnfiaa.My.ld37_run Go.Proofs.Yteoljddobfnfiaa.My.st37_run Go.Proofs.Yteoljddobfnfiaa.My.ld65_run Go.Proofs.Yteoljddobfnfiaa.My.st65_run
open Go.Proofs.Yteoljddobfnfiaa.My
attribute [local go_sem] cell_map run_store_fnV one_int one_bool one_string one_slice one_fnV
set_option linter.unusedVariables false
set_option linter.unusedSimpArgs false

def erratalaw20_small.f (k : Nat)  : Option (Bool) := (some (([(⟨0, ([] : List Int), (⟨#[]⟩ : ByteArray), 0, ([] : List (S93)), 0, 0, 0, ([] : List Int), ([] : List Int), 0, 0, 0, ([] : List (S97)), ([] : List (S99)), ([] : List (S50))⟩ : S44), (⟨4, (([0] : List Int)), (⟨#[]⟩ : ByteArray), 0, ([] : List (S93)), 0, 60, 0, ([] : List Int), ([] : List Int), 0, 0, 0, ([] : List (S97)), ([] : List (S99)), ([] : List (S50))⟩ : S44)] : List (S44)) : List (S44))).bind fun y197 => ((bounds_Analyze.f k ([] : List (S95)) y197 2 0 10 5 3 20).bind fun bt201 => (if 1 < (y197.length : Int) then ((bounds_Analyze.f k ([] : List (S95)) (y197.set (1 : Int).toNat (⟨(rd_T44 y197 1).f0, (rd_T44 y197 1).f1, (rd_T44 y197 1).f2, (rd_T44 y197 1).f3, (rd_T44 y197 1).f4, (rd_T44 y197 1).f5, (-1), (rd_T44 y197 1).f7, (rd_T44 y197 1).f8, (rd_T44 y197 1).f9, (rd_T44 y197 1).f10, (rd_T44 y197 1).f11, (rd_T44 y197 1).f12, (rd_T44 y197 1).f13, (rd_T44 y197 1).f14, (rd_T44 y197 1).f15⟩ : S44)) 2 0 10 5 3 20).bind fun bt207 => (if bt201.2.2 = 0 then (if bt201.2.1 = (-1) then ((errataref20_Same.f k bt201.1 (([(⟨0, 0, 6, 0⟩ : S37), (⟨59, 59, 360, 474⟩ : S37)] : List (S37)))).bind fun t215 => (if t215 = true then (if bt207.2.2 = 14 then (some (bt207.2.1 == 1)) else (some false)) else (some false))) else (some false)) else (some false))) else (none)))
theorem erratalaw20_small.mono : ∀ k, LeO (erratalaw20_small.f k ) (erratalaw20_small.f (k + 1) ) := by
  intro  k
  unfold erratalaw20_small.f
  repeat' first
      | (with_reducible first | exact bounds_Analyze.mono _ _ _ _ _ _ _ _ _ | exact errataref20_Same.mono _ _ _ | exact LeO.refl _ | exact LeO.none _ | refine LeO.ite ?_ ?_ | refine LeO.bind ?_ (fun _ => ?_))
      | exact bounds_Analyze.mono _ _ _ _ _ _ _ _ _ | exact errataref20_Same.mono _ _ _ | exact LeO.none _ | refine LeO.ite ?_ ?_ | refine LeO.bind ?_ (fun _ => ?_)
set_option maxHeartbeats 8000000 in
set_option maxRecDepth 100000 in
theorem erratalaw20_small.calls (k : Nat)  (r : Bool) (w : World) (h : erratalaw20_small.f k  = some r) :
    Calls Try.prog 7 #[] w fun e w' => e = .returned (.bool r) ∧ Below w.heap.size w w' := by
 have hu27 := Try.underlying27
 have hu44 := Try.underlying44
 have hu25 := Try.underlying25
 have hu37 := Try.underlying37
 have HB := Aside0.mk (Below.refl w.heap.size w)
 have H : ((some (([(⟨0, ([] : List Int), (⟨#[]⟩ : ByteArray), 0, ([] : List (S93)), 0, 0, 0, ([] : List Int), ([] : List Int), 0, 0, 0, ([] : List (S97)), ([] : List (S99)), ([] : List (S50))⟩ : S44), (⟨4, (([0] : List Int)), (⟨#[]⟩ : ByteArray), 0, ([] : List (S93)), 0, 60, 0, ([] : List Int), ([] : List Int), 0, 0, 0, ([] : List (S97)), ([] : List (S99)), ([] : List (S50))⟩ : S44)] : List (S44)) : List (S44))).bind fun y197 => ((bounds_Analyze.f k ([] : List (S95)) y197 2 0 10 5 3 20).bind fun bt201 => (if 1 < (y197.length : Int) then ((bounds_Analyze.f k ([] : List (S95)) (y197.set (1 : Int).toNat (⟨(rd_T44 y197 1).f0, (rd_T44 y197 1).f1, (rd_T44 y197 1).f2, (rd_T44 y197 1).f3, (rd_T44 y197 1).f4, (rd_T44 y197 1).f5, (-1), (rd_T44 y197 1).f7, (rd_T44 y197 1).f8, (rd_T44 y197 1).f9, (rd_T44 y197 1).f10, (rd_T44 y197 1).f11, (rd_T44 y197 1).f12, (rd_T44 y197 1).f13, (rd_T44 y197 1).f14, (rd_T44 y197 1).f15⟩ : S44)) 2 0 10 5 3 20).bind fun bt207 => (if bt201.2.2 = 0 then (if bt201.2.1 = (-1) then ((errataref20_Same.f k bt201.1 (([(⟨0, 0, 6, 0⟩ : S37), (⟨59, 59, 360, 474⟩ : S37)] : List (S37)))).bind fun t215 => (if t215 = true then (if bt207.2.2 = 14 then (some (bt207.2.1 == 1)) else (some false)) else (some false))) else (some false)) else (some false))) else (none)))) = some r := h
 clear h
 obtain ⟨y194, hy194⟩ : ∃ y_ : List Int, y_ = (([0] : List Int)) := ⟨_, rfl⟩
 replace H : ((some (([(⟨0, ([] : List Int), (⟨#[]⟩ : ByteArray), 0, ([] : List (S93)), 0, 0, 0, ([] : List Int), ([] : List Int), 0, 0, 0, ([] : List (S97)), ([] : List (S99)), ([] : List (S50))⟩ : S44), (⟨4, y194, (⟨#[]⟩ : ByteArray), 0, ([] : List (S93)), 0, 60, 0, ([] : List Int), ([] : List Int), 0, 0, 0, ([] : List (S97)), ([] : List (S99)), ([] : List (S50))⟩ : S44)] : List (S44)) : List (S44))).bind fun y197 => ((bounds_Analyze.f k ([] : List (S95)) y197 2 0 10 5 3 20).bind fun bt201 => (if 1 < (y197.length : Int) then ((bounds_Analyze.f k ([] : List (S95)) (y197.set (1 : Int).toNat (⟨(rd_T44 y197 1).f0, (rd_T44 y197 1).f1, (rd_T44 y197 1).f2, (rd_T44 y197 1).f3, (rd_T44 y197 1).f4, (rd_T44 y197 1).f5, (-1), (rd_T44 y197 1).f7, (rd_T44 y197 1).f8, (rd_T44 y197 1).f9, (rd_T44 y197 1).f10, (rd_T44 y197 1).f11, (rd_T44 y197 1).f12, (rd_T44 y197 1).f13, (rd_T44 y197 1).f14, (rd_T44 y197 1).f15⟩ : S44)) 2 0 10 5 3 20).bind fun bt207 => (if bt201.2.2 = 0 then (if bt201.2.1 = (-1) then ((errataref20_Same.f k bt201.1 (([(⟨0, 0, 6, 0⟩ : S37), (⟨59, 59, 360, 474⟩ : S37)] : List (S37)))).bind fun t215 => (if t215 = true then (if bt207.2.2 = 14 then (some (bt207.2.1 == 1)) else (some false)) else (some false))) else (some false)) else (some false))) else (none)))) = some r := by first | (rw [hy194]; with_reducible exact H) | (have H2_ := (Option.bind_some _ _).symm.trans H; rw [hy194]; with_reducible exact H2_) | (have H2_ := (Option.bind_some _ _).symm.trans H; with_reducible exact H2_) | with_reducible exact H | (rw [hy194]; exact H) | exact H
 have Ny194 := Aside0.mk hy194
 clear hy194
 obtain ⟨y197, hy197⟩ : ∃ y_ : List (S44), y_ = (([(⟨0, ([] : List Int), (⟨#[]⟩ : ByteArray), 0, ([] : List (S93)), 0, 0, 0, ([] : List Int), ([] : List Int), 0, 0, 0, ([] : List (S97)), ([] : List (S99)), ([] : List (S50))⟩ : S44), (⟨4, y194, (⟨#[]⟩ : ByteArray), 0, ([] : List (S93)), 0, 60, 0, ([] : List Int), ([] : List Int), 0, 0, 0, ([] : List (S97)), ([] : List (S99)), ([] : List (S50))⟩ : S44)] : List (S44))) := ⟨_, rfl⟩
 replace H : ((bounds_Analyze.f k ([] : List (S95)) y197 2 0 10 5 3 20).bind fun bt201 => (if 1 < (y197.length : Int) then ((bounds_Analyze.f k ([] : List (S95)) (y197.set (1 : Int).toNat (⟨(rd_T44 y197 1).f0, (rd_T44 y197 1).f1, (rd_T44 y197 1).f2, (rd_T44 y197 1).f3, (rd_T44 y197 1).f4, (rd_T44 y197 1).f5, (-1), (rd_T44 y197 1).f7, (rd_T44 y197 1).f8, (rd_T44 y197 1).f9, (rd_T44 y197 1).f10, (rd_T44 y197 1).f11, (rd_T44 y197 1).f12, (rd_T44 y197 1).f13, (rd_T44 y197 1).f14, (rd_T44 y197 1).f15⟩ : S44)) 2 0 10 5 3 20).bind fun bt207 => (if bt201.2.2 = 0 then (if bt201.2.1 = (-1) then ((errataref20_Same.f k bt201.1 (([(⟨0, 0, 6, 0⟩ : S37), (⟨59, 59, 360, 474⟩ : S37)] : List (S37)))).bind fun t215 => (if t215 = true then (if bt207.2.2 = 14 then (some (bt207.2.1 == 1)) else (some false)) else (some false))) else (some false)) else (some false))) else (none))) = some r := by first | (rw [hy197]; with_reducible exact H) | (have H2_ := (Option.bind_some _ _).symm.trans H; rw [hy197]; with_reducible exact H2_) | (have H2_ := (Option.bind_some _ _).symm.trans H; with_reducible exact H2_) | with_reducible exact H | (rw [hy197]; exact H) | exact H
 have Ny197 := Aside0.mk hy197
 clear hy197
 replace H := Option.bind_eq_some_iff.mp H
 obtain ⟨⟨t201, t204, t205⟩, A10, H⟩ := H
 try dsimp only at H
 have A1 := Aside0.mk A10
 clear A10
 by_cases c2 : 1 < (y197.length : Int)
 case neg => rw [if_neg c2] at H; exact absurd H (by simp)
 rw [if_pos c2] at H
 have c2b0 : decide (1 < (y197.length : Int)) = true := decide_eq_true c2
 have c2b1 : decide (1 < y197.length) = true := decide_eq_true (by omega)
 clear c2
 obtain ⟨y206, hy206⟩ : ∃ y_ : List (S44), y_ = (y197.set (1 : Int).toNat (⟨(rd_T44 y197 1).f0, (rd_T44 y197 1).f1, (rd_T44 y197 1).f2, (rd_T44 y197 1).f3, (rd_T44 y197 1).f4, (rd_T44 y197 1).f5, (-1), (rd_T44 y197 1).f7, (rd_T44 y197 1).f8, (rd_T44 y197 1).f9, (rd_T44 y197 1).f10, (rd_T44 y197 1).f11, (rd_T44 y197 1).f12, (rd_T44 y197 1).f13, (rd_T44 y197 1).f14, (rd_T44 y197 1).f15⟩ : S44)) := ⟨_, rfl⟩
 replace H : ((bounds_Analyze.f k ([] : List (S95)) y206 2 0 10 5 3 20).bind fun bt207 => (if t205 = 0 then (if t204 = (-1) then ((errataref20_Same.f k t201 (([(⟨0, 0, 6, 0⟩ : S37), (⟨59, 59, 360, 474⟩ : S37)] : List (S37)))).bind fun t215 => (if t215 = true then (if bt207.2.2 = 14 then (some (bt207.2.1 == 1)) else (some false)) else (some false))) else (some false)) else (some false))) = some r := by first | (rw [hy206]; with_reducible exact H) | (have H2_ := (Option.bind_some _ _).symm.trans H; rw [hy206]; with_reducible exact H2_) | (have H2_ := (Option.bind_some _ _).symm.trans H; with_reducible exact H2_) | with_reducible exact H | (rw [hy206]; exact H) | exact H
 have Ny206 := Aside0.mk hy206
 clear hy206
 replace H := Option.bind_eq_some_iff.mp H
 obtain ⟨⟨t207, t210, t211⟩, A40, H⟩ := H
 try dsimp only at H
 have A4 := Aside0.mk A40
 clear A40
 by_cases c5 : t205 = 0
 ·
  rw [if_pos c5] at H
  have c5b0 : (t205 == 0) = true := beq_iff_eq.mpr c5
  have c5b1 : (t205 != 0) = false := bne_eq_false_iff_eq.mpr c5
  clear c5
  by_cases c6 : t204 = (-1)
  ·
   rw [if_pos c6] at H
   have c6b0 : (t204 == (-1)) = true := beq_iff_eq.mpr c6
   have c6b1 : (t204 != (-1)) = false := bne_eq_false_iff_eq.mpr c6
   clear c6
   obtain ⟨y212, hy212⟩ : ∃ y_ : List (S37), y_ = (([(⟨0, 0, 6, 0⟩ : S37), (⟨59, 59, 360, 474⟩ : S37)] : List (S37))) := ⟨_, rfl⟩
   replace H : ((errataref20_Same.f k t201 y212).bind fun t215 => (if t215 = true then (if t211 = 14 then (some (t210 == 1)) else (some false)) else (some false))) = some r := by first | (rw [hy212]; with_reducible exact H) | (have H2_ := (Option.bind_some _ _).symm.trans H; rw [hy212]; with_reducible exact H2_) | (have H2_ := (Option.bind_some _ _).symm.trans H; with_reducible exact H2_) | with_reducible exact H | (rw [hy212]; exact H) | exact H
   have Ny212 := Aside0.mk hy212
   clear hy212
   replace H := Option.bind_eq_some_iff.mp H
   obtain ⟨t215, A70, H⟩ := H
   try dsimp only at H
   have A7 := Aside0.mk A70
   clear A70
   by_cases c8 : t215 = true
   ·
    subst c8
    rw [if_pos rfl] at H
    by_cases c9 : t211 = 14
    ·
     rw [if_pos c9] at H
     have c9b0 : (t211 == 14) = true := beq_iff_eq.mpr c9
     have c9b1 : (t211 != 14) = false := bne_eq_false_iff_eq.mpr c9
     clear c9
     obtain rfl := Option.some.inj H
     go_enter Try.func7, Try.ntmps7
     go_wp2_with (first | ((with_reducible refine gate_dst (N := 1) rfl ?_); (try (refine gate_guard (by rfl) ?_; dsimp only)); refine box_event ?hg (N := 1) ?hd (cs := #[.int .i64 0, .int .i64 0, .int .i64 0, .int .i64 0, .int .i64 0, .int .i64 0]) (t := 27) ?hr ?_; (case hd => rfl); (case hg => rfl); (case hr => first | (go_simp; done) | (go_simp; rfl)); intro gb193 hg w10 hbox hb; have BK193 := Aside0.mk (hbox); have GW193 := Aside0.mk ((by rw [hg]; exact below_sizeA : w.heap.size ≤ gb193)); have GE193 := GW193; replace HB := Aside0.mk (below_stepA hb); clear hb hbox hg; have hz11 := blk6 BK193.out) | ((with_reducible refine gate_dst (N := 11) rfl ?_); (try (refine gate_guard (by rfl) ?_; dsimp only)); refine Kd.R_lit (Kd.int .i64) _ 3 ?hg (N := 11) ?hd (xs := ([0] : List Int)) (inner := [.int .i64 0]) (ok := fun _ => True) (okp := fun _ => True) ?hr ?hp (fun _ hk => hk) trivial (Below.refl _ _) (Nat.le_refl _) (by simp) ?_; (case hd => rfl); (case hg => rfl); (case hr => first | (go_simp; done) | (go_simp; rfl)); (case hp => exact (Reps.one (show Kd.M (Kd.int .i64) _ _ _ 0 [.int .i64 0] from rfl) (Reps.none _ _))); intro v195 w12 ho13 hb hg_ hnew_; clear hg_ hnew_; (first | rw [← Ny194.out] at ho13 | (simp only [Int.reduceToNat] at ho13; rw [← Ny194.out] at ho13)); have HO196 := Aside0.mk (Kd.R_lower ho13 below_sizeA); replace BK193 := Aside0.mk (blk_below (g := gb193) (o := .cells #[.int .i64 2, .int .i64 0, .int .i64 10, .int .i64 5, .int .i64 3, .int .i64 20] 27 (0, 0)) (blk_move BK193.out) hb); replace HB := Aside0.mk (below_stepA hb); clear hb ho13; obtain ⟨Ao14, co14, eo14⟩ := Kd.R_slice HO196.out; subst eo14) | ((with_reducible refine gate_dst (N := 13) rfl ?_); (try (refine gate_guard (by rfl) ?_; dsimp only)); refine Kd.N_lit k44 _ 44 ?hg (N' := 13) ?hd (xs := ([(⟨0, ([] : List Int), (⟨#[]⟩ : ByteArray), 0, ([] : List (S93)), 0, 0, 0, ([] : List Int), ([] : List Int), 0, 0, 0, ([] : List (S97)), ([] : List (S99)), ([] : List (S50))⟩ : S44), (⟨4, y194, (⟨#[]⟩ : ByteArray), 0, ([] : List (S93)), 0, 60, 0, ([] : List Int), ([] : List Int), 0, 0, 0, ([] : List (S97)), ([] : List (S99)), ([] : List (S50))⟩ : S44)] : List (S44))) (inner := [.int .i64 0, .slice none 0 0, .string (⟨#[]⟩ : ByteArray), .int .i64 0, .slice none 0 0, .int .i64 0, .int .i64 0, .int .i64 0, .slice none 0 0, .slice none 0 0, .int .i64 0, .int .i64 0, .int .i64 0, .slice none 0 0, .slice none 0 0, .slice none 0 0, .int .i64 4, .slice Ao14 y194.length co14, .string (⟨#[]⟩ : ByteArray), .int .i64 0, .slice none 0 0, .int .i64 0, .int .i64 60, .int .i64 0, .slice none 0 0, .slice none 0 0, .int .i64 0, .int .i64 0, .int .i64 0, .slice none 0 0, .slice none 0 0, .slice none 0 0]) (ok := (fun k_ => k_ ≠ gb193)) (okp := (fun k_ => k_ ≠ gb193)) ?hr ?hp (fun _ hk => hk) ((show ∀ k_, w12.heap.size ≤ k_ → (fun k_ => k_ ≠ gb193) k_ from fun k_ hk => Kd.freshB (g := gb193) (o := .cells #[.int .i64 2, .int .i64 0, .int .i64 10, .int .i64 5, .int .i64 3, .int .i64 20] 27 (0, 0)) (blk_move BK193.out) k_ hk) _ (Nat.le_refl _)) (Below.refl _ _) (Nat.le_refl _) (by simp) ?_; (case hd => rfl); (case hg => rfl); (case hr => first | (go_simp; done) | (go_simp; rfl)); (case hp => exact (Reps.front (show Kd.FK k44 _ _ (⟨0, ([] : List Int), (⟨#[]⟩ : ByteArray), 0, ([] : List (S93)), 0, 0, 0, ([] : List Int), ([] : List Int), 0, 0, 0, ([] : List (S97)), ([] : List (S99)), ([] : List (S50))⟩ : S44) [.int .i64 0, .slice none 0 0, .string (⟨#[]⟩ : ByteArray), .int .i64 0, .slice none 0 0, .int .i64 0, .int .i64 0, .int .i64 0, .slice none 0 0, .slice none 0 0, .int .i64 0, .int .i64 0, .int .i64 0, .slice none 0 0, .slice none 0 0, .slice none 0 0] from (k44_mkF _ _ (⟨0, ([] : List Int), (⟨#[]⟩ : ByteArray), 0, ([] : List (S93)), 0, 0, 0, ([] : List Int), ([] : List Int), 0, 0, 0, ([] : List (S97)), ([] : List (S99)), ([] : List (S50))⟩ : S44) (Nat.le_refl _) (Kd.F_nil _ _ _) (Nat.le_refl _) (Kd.F_nil _ _ _) (Nat.le_refl _) (Kd.F_nil _ _ _) (Nat.le_refl _) (Kd.F_nil _ _ _) (Nat.le_refl _) (Kd.F_nil _ _ _) (Nat.le_refl _) (Kd.F_nil _ _ _) (Nat.le_refl _) (Kd.F_nil _ _ _))) rfl (Reps.front (show Kd.FK k44 _ _ (⟨4, y194, (⟨#[]⟩ : ByteArray), 0, ([] : List (S93)), 0, 60, 0, ([] : List Int), ([] : List Int), 0, 0, 0, ([] : List (S97)), ([] : List (S99)), ([] : List (S50))⟩ : S44) [.int .i64 4, .slice Ao14 y194.length co14, .string (⟨#[]⟩ : ByteArray), .int .i64 0, .slice none 0 0, .int .i64 0, .int .i64 60, .int .i64 0, .slice none 0 0, .slice none 0 0, .int .i64 0, .int .i64 0, .int .i64 0, .slice none 0 0, .slice none 0 0, .slice none 0 0] from (k44_mkF _ _ (⟨4, y194, (⟨#[]⟩ : ByteArray), 0, ([] : List (S93)), 0, 60, 0, ([] : List Int), ([] : List Int), 0, 0, 0, ([] : List (S97)), ([] : List (S99)), ([] : List (S50))⟩ : S44) (Kd.R_reads' (Kd.R_mono (ok' := (fun k_ => k_ ≠ gb193)) (Kd.R_types (HO196.out) BK193.out (by decide)) (fun k_ hk => hk.2))).2.1 (Kd.R_F (Kd.R_mono (ok' := (fun k_ => k_ ≠ gb193)) (Kd.R_types (HO196.out) BK193.out (by decide)) (fun k_ hk => hk.2))) (Nat.le_refl _) (Kd.F_nil _ _ _) (Nat.le_refl _) (Kd.F_nil _ _ _) (Nat.le_refl _) (Kd.F_nil _ _ _) (Nat.le_refl _) (Kd.F_nil _ _ _) (Nat.le_refl _) (Kd.F_nil _ _ _) (Nat.le_refl _) (Kd.F_nil _ _ _))) rfl (Reps.none _ _) rfl) rfl)); intro v198 w15 ho16 hb hg_ hnew_; clear hg_ hnew_; (first | rw [← Ny197.out] at ho16 | (simp only [Int.reduceToNat] at ho16; rw [← Ny197.out] at ho16)); have n0_ := Aside0.mk (Kd.N_lower ho16 below_sizeA); have n1_ := Aside0.mk (blk_keepA BK193.out hb); have n2_ := Aside0.mk (below_stepA hb); clear BK193; clear HB; clear HO196; have HO199 := n0_; have BK193 := n1_; have HB := n2_; clear n0_ n1_ n2_; clear hb ho16; obtain ⟨Ao17, co17, eo17⟩ := Kd.N_slice HO199.out; subst eo17) | ((with_reducible refine gate_dst (N := 2) rfl ?_); (try (refine gate_guard (by rfl) ?_; dsimp only)); refine box_event ?hg (N := 2) ?hd (cs := #[.slice none 0 0, .slice none 0 0]) (t := 25) ?hr ?_; (case hd => rfl); (case hg => rfl); (case hr => first | (go_simp; done) | (go_simp; rfl)); intro gb200 hg w18 hbox hb; have BK200 := Aside0.mk (hbox); have GW200 := Aside0.mk ((by rw [hg]; exact below_sizeA : w.heap.size ≤ gb200)); have GE200 := GW200; have NB193_200 := Aside0.mk ((by rw [hg]; exact Nat.ne_of_lt (blk_ltKA BK193.out) : gb193 ≠ gb200)); have NB200_193 := Aside0.mk NB193_200.out.symm; replace HO199 := Aside0.mk (Kd.N_below (Kd.N_elderB (by (with_reducible repeat (first | apply Kd.N_alloc | apply Kd.N_drewN | apply Kd.N_drew)); exact HO199.out) gb200 (Nat.le_of_eq hg.symm)) hb); replace BK193 := Aside0.mk (blk_keepA BK193.out hb); replace HB := Aside0.mk (below_stepA hb); clear hb hbox hg; have hnb19 := NB200_193.out; have hnc19 := NB193_200.out; have hz20 := blk2 BK200.out; have hz21 := blk6 BK193.out) | ((with_reducible refine gate_callee (f := 9) rfl ?_); refine goesL_ (some 18) rfl rfl Try.func9 (by kernel_rfl) rfl #[.agg #[.slice none 0 0, .slice Ao17 y197.length co17], .agg #[.int .i64 2, .int .i64 0, .int .i64 10, .int .i64 5, .int .i64 3, .int .i64 20]] rfl mapA ?_; (refine (bounds_Analyze.calls k _ _ ([] : List (S95)) _ _ y197 2 0 10 5 3 20 t201 t204 t205 _ ?side1 ?side2 ?side3 ?side4 A1.out).mono ?_); (case side1 => exact Kd.C_nil _ _); (case side2 => exact Nat.le_refl _); (case side3 => refine (Kd.N_reads' (e := 44) (base := w.heap.size) (ok := fun k_ => (k_ ≠ gb193 ∧ k_ ≠ gb200)) (n := y197.length) (c := co17) ?_).2.2; exact (by (with_reducible repeat (first | apply Kd.N_alloc | apply Kd.N_drewN | apply Kd.N_drew)); exact (Kd.N_mono (Kd.N_far (p := ⟨gb200, 1, none⟩) (Kd.N_far (p := ⟨gb200, 0, none⟩) (Kd.N_mono HO199.out (fun k_ hk => (⟨hk, hk.2⟩ : _ ∧ k_ ≠ gb200))) (fun _ hk => hk.2) (.slice none 0 0)) (fun _ hk => hk.2) (.slice Ao17 y197.length co17)) (fun _ h_ => h_.1)))); (case side4 => exact (Kd.N_reads' HO199.out).2.1); rintro e w22 ⟨v202, rfl, ho0, hb⟩; refine ⟨_, rfl, ?_⟩; have HO203 := Aside0.mk (Kd.R_lower ho0 below_sizeA); replace HO199 := Aside0.mk (Kd.N_elder' (by (with_reducible repeat (first | apply Kd.N_alloc | apply Kd.N_drewN | apply Kd.N_drew)); exact (Kd.N_mono (Kd.N_far (p := ⟨gb200, 1, none⟩) (Kd.N_far (p := ⟨gb200, 0, none⟩) (Kd.N_mono HO199.out (fun k_ hk => (⟨hk, hk.2⟩ : _ ∧ k_ ≠ gb200))) (fun _ hk => hk.2) (.slice none 0 0)) (fun _ hk => hk.2) (.slice Ao17 y197.length co17)) (fun _ h_ => h_.1))) (Kd.R_base ho0) hb); replace BK193 := Aside0.mk (blk_keepA BK193.out hb); replace BK200 := Aside0.mk (blk_below (g := gb200) (o := .cells #[.slice none 0 0, .slice Ao17 y197.length co17] 25 (0, 0)) (blk_move BK200.out) hb); replace HB := Aside0.mk (below_stepA hb); (try clear hb); (try clear ho0); have hz23 := blk2 BK200.out; have p3 : 0 ≤ (1 : Int) := (by omega); have q3 : (1 : Int) < ((y197.length : Int) : Int) := odA; have qi3 : (1 < y197.length) = True := eq_true (by omega); obtain ⟨go3, co3, eo3, gb3, gl3, cl3, HG3⟩ := Kd.N_form HO199.out (by omega); (first | cases eo3 | (injection eo3 with ea_ en_ ec_; (first | subst ea_ | (injection ea_ with ea_; subst ea_)); subst ec_; clear en_)); have GB3 := Aside0.mk gb3; have GG3 := Aside0.mk HG3; clear gb3 gl3 HG3; obtain ⟨ce3, hcl3, hM3, hcc3, hfr3⟩ := Kd.N_elem HO199.out z44 (1 : Int) p3 q3; obtain ⟨ua3_1, uc3_1, ua3_4, uc3_4, ua3_8, uc3_8, ua3_9, uc3_9, ua3_13, uc3_13, ua3_14, uc3_14, ua3_15, uc3_15, rfl, ul3_1, ge3_1, ul3_4, ge3_4, ul3_8, ge3_8, ul3_9, ge3_9, ul3_13, ge3_13, ul3_14, ge3_14, ul3_15, ge3_15⟩ := k44_openF hM3; have hx3_0 : w22.cell? ⟨go3, (1 : Int).toNat * 16, none⟩ = some (.int .i64 ((rd_T44 y197 1).f0)) := hcc3 0 _ rfl; have hx3_1 : w22.cell? ⟨go3, (1 : Int).toNat * 16 + 1, none⟩ = some (.slice ua3_1 ((rd_T44 y197 1).f1).length uc3_1) := hcc3 1 _ rfl; have hx3_2 : w22.cell? ⟨go3, (1 : Int).toNat * 16 + 2, none⟩ = some (.string ((rd_T44 y197 1).f2)) := hcc3 2 _ rfl; have hx3_3 : w22.cell? ⟨go3, (1 : Int).toNat * 16 + 3, none⟩ = some (.int .i64 ((rd_T44 y197 1).f3)) := hcc3 3 _ rfl; have hx3_4 : w22.cell? ⟨go3, (1 : Int).toNat * 16 + 4, none⟩ = some (.slice ua3_4 ((rd_T44 y197 1).f4).length uc3_4) := hcc3 4 _ rfl; have hx3_5 : w22.cell? ⟨go3, (1 : Int).toNat * 16 + 5, none⟩ = some (.int .i64 ((rd_T44 y197 1).f5)) := hcc3 5 _ rfl; have hx3_6 : w22.cell? ⟨go3, (1 : Int).toNat * 16 + 6, none⟩ = some (.int .i64 ((rd_T44 y197 1).f6)) := hcc3 6 _ rfl; have hx3_7 : w22.cell? ⟨go3, (1 : Int).toNat * 16 + 7, none⟩ = some (.int .i64 ((rd_T44 y197 1).f7)) := hcc3 7 _ rfl; have hx3_8 : w22.cell? ⟨go3, (1 : Int).toNat * 16 + 8, none⟩ = some (.slice ua3_8 ((rd_T44 y197 1).f8).length uc3_8) := hcc3 8 _ rfl; have hx3_9 : w22.cell? ⟨go3, (1 : Int).toNat * 16 + 9, none⟩ = some (.slice ua3_9 ((rd_T44 y197 1).f9).length uc3_9) := hcc3 9 _ rfl; have hx3_10 : w22.cell? ⟨go3, (1 : Int).toNat * 16 + 10, none⟩ = some (.int .i64 ((rd_T44 y197 1).f10)) := hcc3 10 _ rfl; have hx3_11 : w22.cell? ⟨go3, (1 : Int).toNat * 16 + 11, none⟩ = some (.int .i64 ((rd_T44 y197 1).f11)) := hcc3 11 _ rfl; have hx3_12 : w22.cell? ⟨go3, (1 : Int).toNat * 16 + 12, none⟩ = some (.int .i64 ((rd_T44 y197 1).f12)) := hcc3 12 _ rfl; have hx3_13 : w22.cell? ⟨go3, (1 : Int).toNat * 16 + 13, none⟩ = some (.slice ua3_13 ((rd_T44 y197 1).f13).length uc3_13) := hcc3 13 _ rfl; have hx3_14 : w22.cell? ⟨go3, (1 : Int).toNat * 16 + 14, none⟩ = some (.slice ua3_14 ((rd_T44 y197 1).f14).length uc3_14) := hcc3 14 _ rfl; have hx3_15 : w22.cell? ⟨go3, (1 : Int).toNat * 16 + 15, none⟩ = some (.slice ua3_15 ((rd_T44 y197 1).f15).length uc3_15) := hcc3 15 _ rfl; have hf3_0 : w22.frozen? ⟨go3, (1 : Int).toNat * 16, none⟩ = false := hfr3 0; have hf3_1 : w22.frozen? ⟨go3, (1 : Int).toNat * 16 + 1, none⟩ = false := hfr3 1; have hf3_2 : w22.frozen? ⟨go3, (1 : Int).toNat * 16 + 2, none⟩ = false := hfr3 2; have hf3_3 : w22.frozen? ⟨go3, (1 : Int).toNat * 16 + 3, none⟩ = false := hfr3 3; have hf3_4 : w22.frozen? ⟨go3, (1 : Int).toNat * 16 + 4, none⟩ = false := hfr3 4; have hf3_5 : w22.frozen? ⟨go3, (1 : Int).toNat * 16 + 5, none⟩ = false := hfr3 5; have hf3_6 : w22.frozen? ⟨go3, (1 : Int).toNat * 16 + 6, none⟩ = false := hfr3 6; have hf3_7 : w22.frozen? ⟨go3, (1 : Int).toNat * 16 + 7, none⟩ = false := hfr3 7; have hf3_8 : w22.frozen? ⟨go3, (1 : Int).toNat * 16 + 8, none⟩ = false := hfr3 8; have hf3_9 : w22.frozen? ⟨go3, (1 : Int).toNat * 16 + 9, none⟩ = false := hfr3 9; have hf3_10 : w22.frozen? ⟨go3, (1 : Int).toNat * 16 + 10, none⟩ = false := hfr3 10; have hf3_11 : w22.frozen? ⟨go3, (1 : Int).toNat * 16 + 11, none⟩ = false := hfr3 11; have hf3_12 : w22.frozen? ⟨go3, (1 : Int).toNat * 16 + 12, none⟩ = false := hfr3 12; have hf3_13 : w22.frozen? ⟨go3, (1 : Int).toNat * 16 + 13, none⟩ = false := hfr3 13; have hf3_14 : w22.frozen? ⟨go3, (1 : Int).toNat * 16 + 14, none⟩ = false := hfr3 14; have hf3_15 : w22.frozen? ⟨go3, (1 : Int).toNat * 16 + 15, none⟩ = false := hfr3 15; clear hcl3 hcc3 hfr3 hM3; (try rw [show ((1 : Int)).toNat = 1 from rfl] at hx3_0); (try simp only [Nat.reduceMul, Nat.zero_mul, Nat.zero_add, Nat.reduceAdd] at hx3_0); (try rw [show ((1 : Int)).toNat = 1 from rfl] at hf3_0); (try simp only [Nat.reduceMul, Nat.zero_mul, Nat.zero_add, Nat.reduceAdd] at hf3_0); (try rw [show ((1 : Int)).toNat = 1 from rfl] at hx3_1); (try simp only [Nat.reduceMul, Nat.zero_mul, Nat.zero_add, Nat.reduceAdd] at hx3_1); (try rw [show ((1 : Int)).toNat = 1 from rfl] at hf3_1); (try simp only [Nat.reduceMul, Nat.zero_mul, Nat.zero_add, Nat.reduceAdd] at hf3_1); (try rw [show ((1 : Int)).toNat = 1 from rfl] at hx3_2); (try simp only [Nat.reduceMul, Nat.zero_mul, Nat.zero_add, Nat.reduceAdd] at hx3_2); (try rw [show ((1 : Int)).toNat = 1 from rfl] at hf3_2); (try simp only [Nat.reduceMul, Nat.zero_mul, Nat.zero_add, Nat.reduceAdd] at hf3_2); (try rw [show ((1 : Int)).toNat = 1 from rfl] at hx3_3); (try simp only [Nat.reduceMul, Nat.zero_mul, Nat.zero_add, Nat.reduceAdd] at hx3_3); (try rw [show ((1 : Int)).toNat = 1 from rfl] at hf3_3); (try simp only [Nat.reduceMul, Nat.zero_mul, Nat.zero_add, Nat.reduceAdd] at hf3_3); (try rw [show ((1 : Int)).toNat = 1 from rfl] at hx3_4); (try simp only [Nat.reduceMul, Nat.zero_mul, Nat.zero_add, Nat.reduceAdd] at hx3_4); (try rw [show ((1 : Int)).toNat = 1 from rfl] at hf3_4); (try simp only [Nat.reduceMul, Nat.zero_mul, Nat.zero_add, Nat.reduceAdd] at hf3_4); (try rw [show ((1 : Int)).toNat = 1 from rfl] at hx3_5); (try simp only [Nat.reduceMul, Nat.zero_mul, Nat.zero_add, Nat.reduceAdd] at hx3_5); (try rw [show ((1 : Int)).toNat = 1 from rfl] at hf3_5); (try simp only [Nat.reduceMul, Nat.zero_mul, Nat.zero_add, Nat.reduceAdd] at hf3_5); (try rw [show ((1 : Int)).toNat = 1 from rfl] at hx3_6); (try simp only [Nat.reduceMul, Nat.zero_mul, Nat.zero_add, Nat.reduceAdd] at hx3_6); (try rw [show ((1 : Int)).toNat = 1 from rfl] at hf3_6); (try simp only [Nat.reduceMul, Nat.zero_mul, Nat.zero_add, Nat.reduceAdd] at hf3_6); (try rw [show ((1 : Int)).toNat = 1 from rfl] at hx3_7); (try simp only [Nat.reduceMul, Nat.zero_mul, Nat.zero_add, Nat.reduceAdd] at hx3_7); (try rw [show ((1 : Int)).toNat = 1 from rfl] at hf3_7); (try simp only [Nat.reduceMul, Nat.zero_mul, Nat.zero_add, Nat.reduceAdd] at hf3_7); (try rw [show ((1 : Int)).toNat = 1 from rfl] at hx3_8); (try simp only [Nat.reduceMul, Nat.zero_mul, Nat.zero_add, Nat.reduceAdd] at hx3_8); (try rw [show ((1 : Int)).toNat = 1 from rfl] at hf3_8); (try simp only [Nat.reduceMul, Nat.zero_mul, Nat.zero_add, Nat.reduceAdd] at hf3_8); (try rw [show ((1 : Int)).toNat = 1 from rfl] at hx3_9); (try simp only [Nat.reduceMul, Nat.zero_mul, Nat.zero_add, Nat.reduceAdd] at hx3_9); (try rw [show ((1 : Int)).toNat = 1 from rfl] at hf3_9); (try simp only [Nat.reduceMul, Nat.zero_mul, Nat.zero_add, Nat.reduceAdd] at hf3_9); (try rw [show ((1 : Int)).toNat = 1 from rfl] at hx3_10); (try simp only [Nat.reduceMul, Nat.zero_mul, Nat.zero_add, Nat.reduceAdd] at hx3_10); (try rw [show ((1 : Int)).toNat = 1 from rfl] at hf3_10); (try simp only [Nat.reduceMul, Nat.zero_mul, Nat.zero_add, Nat.reduceAdd] at hf3_10); (try rw [show ((1 : Int)).toNat = 1 from rfl] at hx3_11); (try simp only [Nat.reduceMul, Nat.zero_mul, Nat.zero_add, Nat.reduceAdd] at hx3_11); (try rw [show ((1 : Int)).toNat = 1 from rfl] at hf3_11); (try simp only [Nat.reduceMul, Nat.zero_mul, Nat.zero_add, Nat.reduceAdd] at hf3_11); (try rw [show ((1 : Int)).toNat = 1 from rfl] at hx3_12); (try simp only [Nat.reduceMul, Nat.zero_mul, Nat.zero_add, Nat.reduceAdd] at hx3_12); (try rw [show ((1 : Int)).toNat = 1 from rfl] at hf3_12); (try simp only [Nat.reduceMul, Nat.zero_mul, Nat.zero_add, Nat.reduceAdd] at hf3_12); (try rw [show ((1 : Int)).toNat = 1 from rfl] at hx3_13); (try simp only [Nat.reduceMul, Nat.zero_mul, Nat.zero_add, Nat.reduceAdd] at hx3_13); (try rw [show ((1 : Int)).toNat = 1 from rfl] at hf3_13); (try simp only [Nat.reduceMul, Nat.zero_mul, Nat.zero_add, Nat.reduceAdd] at hf3_13); (try rw [show ((1 : Int)).toNat = 1 from rfl] at hx3_14); (try simp only [Nat.reduceMul, Nat.zero_mul, Nat.zero_add, Nat.reduceAdd] at hx3_14); (try rw [show ((1 : Int)).toNat = 1 from rfl] at hf3_14); (try simp only [Nat.reduceMul, Nat.zero_mul, Nat.zero_add, Nat.reduceAdd] at hf3_14); (try rw [show ((1 : Int)).toNat = 1 from rfl] at hx3_15); (try simp only [Nat.reduceMul, Nat.zero_mul, Nat.zero_add, Nat.reduceAdd] at hx3_15); (try rw [show ((1 : Int)).toNat = 1 from rfl] at hf3_15); (try simp only [Nat.reduceMul, Nat.zero_mul, Nat.zero_add, Nat.reduceAdd] at hf3_15); replace p3 := eq_true p3; replace q3 := eq_true q3; have n_ := Aside0.mk (Kd.N_mono (ok' := (fun k_ => some k_ ≠ (v202 : Value).ownBlock ∧ k_ ≠ gb193 ∧ k_ ≠ gb200)) HO199.out (fun k_ hk => ⟨hk.2, ⟨hk.1.1, hk.1.2⟩⟩)); clear HO199; have HO199 := n_; clear n_; have HX24 := Aside0.mk (show Kd.N k44 44 w22 w.heap.size (fun k_ => some k_ ≠ (v202 : Value).ownBlock ∧ k_ ≠ gb193 ∧ k_ ≠ gb200) (.slice (some ⟨go3, 0, none⟩) y197.length co17) y197 from (by (with_reducible repeat (first | apply Kd.N_alloc | apply Kd.N_drewN | apply Kd.N_drew)); exact HO199.out)); obtain ⟨ce24, hcl24, hM24, hcc24, hfr24⟩ := Kd.N_elem HX24.out z44 (1 : Int) (by omega) (by have h_ : (1 : Int) < ((y197.length : Int) : Int) := odA; first | exact h_ | (have e_ := (Kd.N_reads' HO199.out).1; omega) | simpa using h_); obtain ⟨ua24_1, uc24_1, ua24_4, uc24_4, ua24_8, uc24_8, ua24_9, uc24_9, ua24_13, uc24_13, ua24_14, uc24_14, ua24_15, uc24_15, rfl, ul24_1, ge24_1, ul24_4, ge24_4, ul24_8, ge24_8, ul24_9, ge24_9, ul24_13, ge24_13, ul24_14, ge24_14, ul24_15, ge24_15⟩ := k44_openF hM24; have HP24 := Kd.N_seg HX24.out (1 : Int) (by omega) (by have h_ : (1 : Int) < ((y197.length : Int) : Int) := odA; first | exact h_ | (have e_ := (Kd.N_reads' HO199.out).1; omega) | simpa using h_) (seg := [.int .i64 (-1)]) (j := 6) hcl24 hcc24 (show 7 ≤ 16 from by decide) (x' := (⟨(rd_T44 y197 1).f0, (rd_T44 y197 1).f1, (rd_T44 y197 1).f2, (rd_T44 y197 1).f3, (rd_T44 y197 1).f4, (rd_T44 y197 1).f5, (-1), (rd_T44 y197 1).f7, (rd_T44 y197 1).f8, (rd_T44 y197 1).f9, (rd_T44 y197 1).f10, (rd_T44 y197 1).f11, (rd_T44 y197 1).f12, (rd_T44 y197 1).f13, (rd_T44 y197 1).f14, (rd_T44 y197 1).f15⟩ : S44)) (k44_mkF _ _ (⟨(rd_T44 y197 1).f0, (rd_T44 y197 1).f1, (rd_T44 y197 1).f2, (rd_T44 y197 1).f3, (rd_T44 y197 1).f4, (rd_T44 y197 1).f5, (-1), (rd_T44 y197 1).f7, (rd_T44 y197 1).f8, (rd_T44 y197 1).f9, (rd_T44 y197 1).f10, (rd_T44 y197 1).f11, (rd_T44 y197 1).f12, (rd_T44 y197 1).f13, (rd_T44 y197 1).f14, (rd_T44 y197 1).f15⟩ : S44) ul24_1 ge24_1 ul24_4 ge24_4 ul24_8 ge24_8 ul24_9 ge24_9 ul24_13 ge24_13 ul24_14 ge24_14 ul24_15 ge24_15) (fun _ hk => hk); have hx24_6 := hcc24 6 _ rfl; (try simp only [show (k44).sz = 16 from rfl, Nat.mul_one, Nat.add_zero] at hx24_6); (try rw [show ((1 : Int)).toNat = 1 from rfl] at hx24_6); (try simp only [Nat.reduceMul, Nat.zero_mul, Nat.zero_add, Nat.reduceAdd] at hx24_6); have hf24_6 := hfr24 6; (try simp only [show (k44).sz = 16 from rfl, Nat.mul_one, Nat.add_zero] at hf24_6); (try rw [show ((1 : Int)).toNat = 1 from rfl] at hf24_6); (try simp only [Nat.reduceMul, Nat.zero_mul, Nat.zero_add, Nat.reduceAdd] at hf24_6); clear hcl24 hcc24 hfr24 hM24) | ((with_reducible refine gate_store (t := 3) (p := 25) rfl ?_); refine store_event (t := 3) (p := 25) (v := ?vo_w25) (w1 := (w22.setCell ⟨go3, 22, none⟩ (.int .i64 (-1)))) ?hg ?ho ?hn ?hr ?_; (case ho => rfl); (case hg => rfl); (case hn => rfl); (case hr => first | (go_simp; done) | (go_simp; rfl)); intro w25 hw; have hg : w22.grownBy w25 (some go3) := (by rw [hw]; exact HP24.2); have hp_ : Kd.N k44 44 w25 w.heap.size (fun k_ => some k_ ≠ (v202 : Value).ownBlock ∧ k_ ≠ gb193 ∧ k_ ≠ gb200) (.slice (some ⟨go3, 0, none⟩) y197.length co17) y206 := (by rw [hw, Ny206.out]; exact HP24.1); clear HP24; have n0_ := Aside0.mk (blk_grown (g := gb193) (o := .cells #[.int .i64 2, .int .i64 0, .int .i64 10, .int .i64 5, .int .i64 3, .int .i64 20] 27 (0, 0)) (blk_move BK193.out) hg (Kd.N_ne HO199.out BK193.out (by decide))); have n1_ := Aside0.mk (hp_); have n2_ := Aside0.mk (blk_grown (g := gb200) (o := .cells #[.slice none 0 0, .slice (some ⟨go3, 0, none⟩) y197.length co17] 25 (0, 0)) (blk_move BK200.out) hg (Kd.N_ne HO199.out BK200.out (by decide))); have n3_ := Aside0.mk (Kd.R_over' (v := (.slice (some ⟨go3, 0, none⟩) y197.length co17)) (by (with_reducible repeat (first | apply Kd.R_alloc | apply Kd.R_drewN | apply Kd.R_drew)); exact HO203.out) (Kd.N_typed HO199.out) (by decide) hg); have n4_ := Aside0.mk ((by rw [hw]; exact below_set (HB.out) GB3.out : Below w.heap.size w w25)); clear BK193; clear HO199; clear BK200; clear HO203; clear HB; have BK193 := n0_; have HO199 := n1_; have BK200 := n2_; have HO203 := n3_; have HB := n4_; clear n0_ n1_ n2_ n3_ n4_; clear hg hw hp_; have hz26 := blk2 BK200.out; have hz27 := blk6 BK193.out) | ((with_reducible refine gate_callee (f := 9) rfl ?_); refine goesL_ (some 29) rfl rfl Try.func9 (by kernel_rfl) rfl #[.agg #[.slice none 0 0, .slice (some ⟨go3, 0, none⟩) y206.length co17], .agg #[.int .i64 2, .int .i64 0, .int .i64 10, .int .i64 5, .int .i64 3, .int .i64 20]] rfl (by (try simp only [List.map_toArray, List.map_cons, List.map_nil]); first | done | (rw [show y206.length = y197.length from (Kd.N_reads' HO199.out).1.symm] <;> rfl) | rfl | (simp only [List.length_drop, List.length_take]; rfl)) ?_; (refine (bounds_Analyze.calls k _ _ ([] : List (S95)) _ _ y206 2 0 10 5 3 20 t207 t210 t211 _ ?side1 ?side2 ?side3 ?side4 A4.out).mono ?_); (case side1 => exact Kd.C_nil _ _); (case side2 => exact Nat.le_refl _); (case side3 => repeat (first | exact (Kd.N_reads' HO199.out).2.2 | (with_reducible refine Kd.C_alloc ?_ _) | (with_reducible refine Kd.C_drewN ?_ _) | (with_reducible refine Kd.C_drew ?_))); (case side4 => rw [show y206.length = y197.length from (Kd.N_reads' HO199.out).1.symm]; exact (Kd.N_reads' HO199.out).2.1); rintro e w28 ⟨v208, rfl, ho0, hb⟩; refine ⟨_, rfl, ?_⟩; have HO209 := Aside0.mk (Kd.R_lower (Kd.R_new' ho0 (Kd.R_lt (by (with_reducible repeat (first | apply Kd.R_alloc | apply Kd.R_drewN | apply Kd.R_drew)); exact HO203.out))) below_sizeA); replace HO199 := Aside0.mk (Kd.N_elder' (by (with_reducible repeat (first | apply Kd.N_alloc | apply Kd.N_drewN | apply Kd.N_drew)); exact HO199.out) (Kd.R_base ho0) hb); replace HO203 := Aside0.mk (Kd.R_elder' (by (with_reducible repeat (first | apply Kd.R_alloc | apply Kd.R_drewN | apply Kd.R_drew)); exact HO203.out) (Kd.R_base ho0) hb); replace BK193 := Aside0.mk (blk_keepA BK193.out hb); replace BK200 := Aside0.mk (blk_keepA BK200.out hb); replace HB := Aside0.mk (below_stepA hb); (try clear hb); (try clear ho0)) | ((with_reducible refine gate_dst (N := 43) rfl ?_); (try (refine gate_guard (by rfl) ?_; dsimp only)); refine Kd.R_lit k37 _ 37 ?hg (N := 43) ?hd (xs := ([(⟨0, 0, 6, 0⟩ : S37), (⟨59, 59, 360, 474⟩ : S37)] : List (S37))) (inner := [.int .i64 0, .int .i64 0, .int .i64 6, .int .i64 0, .int .i64 59, .int .i64 59, .int .i64 360, .int .i64 474]) (ok := fun _ => True) (okp := fun _ => True) ?hr ?hp (fun _ hk => hk) trivial (Below.refl _ _) (Nat.le_refl _) (by simp) ?_; (case hd => rfl); (case hg => rfl); (case hr => first | (go_simp; done) | (go_simp; rfl)); (case hp => exact (Reps.c4 (show Kd.M k37 _ _ _ (⟨0, 0, 6, 0⟩ : S37) [.int .i64 0, .int .i64 0, .int .i64 6, .int .i64 0] from (k37_mkM _ _ _ (⟨0, 0, 6, 0⟩ : S37) )) (Reps.c4 (show Kd.M k37 _ _ _ (⟨59, 59, 360, 474⟩ : S37) [.int .i64 59, .int .i64 59, .int .i64 360, .int .i64 474] from (k37_mkM _ _ _ (⟨59, 59, 360, 474⟩ : S37) )) (Reps.none _ _)))); intro v213 w29 ho30 hb hg_ hnew_; clear hg_ hnew_; (first | rw [← Ny212.out] at ho30 | (simp only [Int.reduceToNat] at ho30; rw [← Ny212.out] at ho30)); have HO214 := Aside0.mk (Kd.R_lower (Kd.R_new' (Kd.R_new' ho30 (Kd.R_lt (by (with_reducible repeat (first | apply Kd.R_alloc | apply Kd.R_drewN | apply Kd.R_drew)); exact HO203.out))) (Kd.R_lt (by (with_reducible repeat (first | apply Kd.R_alloc | apply Kd.R_drewN | apply Kd.R_drew)); exact HO209.out))) below_sizeA); replace HO199 := Aside0.mk (Kd.N_elder' (by (with_reducible repeat (first | apply Kd.N_alloc | apply Kd.N_drewN | apply Kd.N_drew)); exact HO199.out) (Kd.R_base ho30) hb); replace HO203 := Aside0.mk (Kd.R_elder' (by (with_reducible repeat (first | apply Kd.R_alloc | apply Kd.R_drewN | apply Kd.R_drew)); exact HO203.out) (Kd.R_base ho30) hb); replace HO209 := Aside0.mk (Kd.R_elder' (by (with_reducible repeat (first | apply Kd.R_alloc | apply Kd.R_drewN | apply Kd.R_drew)); exact HO209.out) (Kd.R_base ho30) hb); replace BK193 := Aside0.mk (blk_keepA BK193.out hb); replace BK200 := Aside0.mk (blk_keepA BK200.out hb); replace HB := Aside0.mk (below_stepA hb); clear hb ho30; obtain ⟨Ao31, co31, eo31⟩ := Kd.R_slice HO203.out; subst eo31; obtain ⟨Ao32, co32, eo32⟩ := Kd.R_slice HO214.out; subst eo32) | (go_at_call 11; (with_reducible refine (errataref20_Same.calls k _ _ t201 _ _ y212 true _ ?side1 ?side2 ?side3 ?side4 A7.out).mono ?_); (case side1 => repeat (first | exact (Kd.R_reads' HO203.out).2.2 | (with_reducible refine Kd.C_alloc ?_ _) | (with_reducible refine Kd.C_drewN ?_ _) | (with_reducible refine Kd.C_drew ?_))); (case side2 => exact (Kd.R_reads' HO203.out).2.1); (case side3 => repeat (first | exact (Kd.R_reads' HO214.out).2.2 | (with_reducible refine Kd.C_alloc ?_ _) | (with_reducible refine Kd.C_drewN ?_ _) | (with_reducible refine Kd.C_drew ?_))); (case side4 => exact (Kd.R_reads' HO214.out).2.1); rintro e w' ⟨rfl, ⟨nd, rfl⟩⟩))
     go_ret
     exact ⟨by first | rfl | (simp [errW_none, errW_some] <;> rfl) | (simp [*, errW_none, errW_some] <;> rfl), belowA⟩
    ·
     rw [if_neg c9] at H
     have c9b0 : (t211 == 14) = false := beq_eq_false_iff_ne.mpr c9
     have c9b1 : (t211 != 14) = true := bne_iff_ne.mpr c9
     obtain rfl := Option.some.inj H
     go_enter Try.func7, Try.ntmps7
     go_wp2_with (first | ((with_reducible refine gate_dst (N := 1) rfl ?_); (try (refine gate_guard (by rfl) ?_; dsimp only)); refine box_event ?hg (N := 1) ?hd (cs := #[.int .i64 0, .int .i64 0, .int .i64 0, .int .i64 0, .int .i64 0, .int .i64 0]) (t := 27) ?hr ?_; (case hd => rfl); (case hg => rfl); (case hr => first | (go_simp; done) | (go_simp; rfl)); intro gb193 hg w33 hbox hb; have BK193 := Aside0.mk (hbox); have GW193 := Aside0.mk ((by rw [hg]; exact below_sizeA : w.heap.size ≤ gb193)); have GE193 := GW193; replace HB := Aside0.mk (below_stepA hb); clear hb hbox hg; have hz34 := blk6 BK193.out) | ((with_reducible refine gate_dst (N := 11) rfl ?_); (try (refine gate_guard (by rfl) ?_; dsimp only)); refine Kd.R_lit (Kd.int .i64) _ 3 ?hg (N := 11) ?hd (xs := ([0] : List Int)) (inner := [.int .i64 0]) (ok := fun _ => True) (okp := fun _ => True) ?hr ?hp (fun _ hk => hk) trivial (Below.refl _ _) (Nat.le_refl _) (by simp) ?_; (case hd => rfl); (case hg => rfl); (case hr => first | (go_simp; done) | (go_simp; rfl)); (case hp => exact (Reps.one (show Kd.M (Kd.int .i64) _ _ _ 0 [.int .i64 0] from rfl) (Reps.none _ _))); intro v195 w35 ho36 hb hg_ hnew_; clear hg_ hnew_; (first | rw [← Ny194.out] at ho36 | (simp only [Int.reduceToNat] at ho36; rw [← Ny194.out] at ho36)); have HO196 := Aside0.mk (Kd.R_lower ho36 below_sizeA); replace BK193 := Aside0.mk (blk_below (g := gb193) (o := .cells #[.int .i64 2, .int .i64 0, .int .i64 10, .int .i64 5, .int .i64 3, .int .i64 20] 27 (0, 0)) (blk_move BK193.out) hb); replace HB := Aside0.mk (below_stepA hb); clear hb ho36; obtain ⟨Ao37, co37, eo37⟩ := Kd.R_slice HO196.out; subst eo37) | ((with_reducible refine gate_dst (N := 13) rfl ?_); (try (refine gate_guard (by rfl) ?_; dsimp only)); refine Kd.N_lit k44 _ 44 ?hg (N' := 13) ?hd (xs := ([(⟨0, ([] : List Int), (⟨#[]⟩ : ByteArray), 0, ([] : List (S93)), 0, 0, 0, ([] : List Int), ([] : List Int), 0, 0, 0, ([] : List (S97)), ([] : List (S99)), ([] : List (S50))⟩ : S44), (⟨4, y194, (⟨#[]⟩ : ByteArray), 0, ([] : List (S93)), 0, 60, 0, ([] : List Int), ([] : List Int), 0, 0, 0, ([] : List (S97)), ([] : List (S99)), ([] : List (S50))⟩ : S44)] : List (S44))) (inner := [.int .i64 0, .slice none 0 0, .string (⟨#[]⟩ : ByteArray), .int .i64 0, .slice none 0 0, .int .i64 0, .int .i64 0, .int .i64 0, .slice none 0 0, .slice none 0 0, .int .i64 0, .int .i64 0, .int .i64 0, .slice none 0 0, .slice none 0 0, .slice none 0 0, .int .i64 4, .slice Ao37 y194.length co37, .string (⟨#[]⟩ : ByteArray), .int .i64 0, .slice none 0 0, .int .i64 0, .int .i64 60, .int .i64 0, .slice none 0 0, .slice none 0 0, .int .i64 0, .int .i64 0, .int .i64 0, .slice none 0 0, .slice none 0 0, .slice none 0 0]) (ok := (fun k_ => k_ ≠ gb193)) (okp := (fun k_ => k_ ≠ gb193)) ?hr ?hp (fun _ hk => hk) ((show ∀ k_, w35.heap.size ≤ k_ → (fun k_ => k_ ≠ gb193) k_ from fun k_ hk => Kd.freshB (g := gb193) (o := .cells #[.int .i64 2, .int .i64 0, .int .i64 10, .int .i64 5, .int .i64 3, .int .i64 20] 27 (0, 0)) (blk_move BK193.out) k_ hk) _ (Nat.le_refl _)) (Below.refl _ _) (Nat.le_refl _) (by simp) ?_; (case hd => rfl); (case hg => rfl); (case hr => first | (go_simp; done) | (go_simp; rfl)); (case hp => exact (Reps.front (show Kd.FK k44 _ _ (⟨0, ([] : List Int), (⟨#[]⟩ : ByteArray), 0, ([] : List (S93)), 0, 0, 0, ([] : List Int), ([] : List Int), 0, 0, 0, ([] : List (S97)), ([] : List (S99)), ([] : List (S50))⟩ : S44) [.int .i64 0, .slice none 0 0, .string (⟨#[]⟩ : ByteArray), .int .i64 0, .slice none 0 0, .int .i64 0, .int .i64 0, .int .i64 0, .slice none 0 0, .slice none 0 0, .int .i64 0, .int .i64 0, .int .i64 0, .slice none 0 0, .slice none 0 0, .slice none 0 0] from (k44_mkF _ _ (⟨0, ([] : List Int), (⟨#[]⟩ : ByteArray), 0, ([] : List (S93)), 0, 0, 0, ([] : List Int), ([] : List Int), 0, 0, 0, ([] : List (S97)), ([] : List (S99)), ([] : List (S50))⟩ : S44) (Nat.le_refl _) (Kd.F_nil _ _ _) (Nat.le_refl _) (Kd.F_nil _ _ _) (Nat.le_refl _) (Kd.F_nil _ _ _) (Nat.le_refl _) (Kd.F_nil _ _ _) (Nat.le_refl _) (Kd.F_nil _ _ _) (Nat.le_refl _) (Kd.F_nil _ _ _) (Nat.le_refl _) (Kd.F_nil _ _ _))) rfl (Reps.front (show Kd.FK k44 _ _ (⟨4, y194, (⟨#[]⟩ : ByteArray), 0, ([] : List (S93)), 0, 60, 0, ([] : List Int), ([] : List Int), 0, 0, 0, ([] : List (S97)), ([] : List (S99)), ([] : List (S50))⟩ : S44) [.int .i64 4, .slice Ao37 y194.length co37, .string (⟨#[]⟩ : ByteArray), .int .i64 0, .slice none 0 0, .int .i64 0, .int .i64 60, .int .i64 0, .slice none 0 0, .slice none 0 0, .int .i64 0, .int .i64 0, .int .i64 0, .slice none 0 0, .slice none 0 0, .slice none 0 0] from (k44_mkF _ _ (⟨4, y194, (⟨#[]⟩ : ByteArray), 0, ([] : List (S93)), 0, 60, 0, ([] : List Int), ([] : List Int), 0, 0, 0, ([] : List (S97)), ([] : List (S99)), ([] : List (S50))⟩ : S44) (Kd.R_reads' (Kd.R_mono (ok' := (fun k_ => k_ ≠ gb193)) (Kd.R_types (HO196.out) BK193.out (by decide)) (fun k_ hk => hk.2))).2.1 (Kd.R_F (Kd.R_mono (ok' := (fun k_ => k_ ≠ gb193)) (Kd.R_types (HO196.out) BK193.out (by decide)) (fun k_ hk => hk.2))) (Nat.le_refl _) (Kd.F_nil _ _ _) (Nat.le_refl _) (Kd.F_nil _ _ _) (Nat.le_refl _) (Kd.F_nil _ _ _) (Nat.le_refl _) (Kd.F_nil _ _ _) (Nat.le_refl _) (Kd.F_nil _ _ _) (Nat.le_refl _) (Kd.F_nil _ _ _))) rfl (Reps.none _ _) rfl) rfl)); intro v198 w38 ho39 hb hg_ hnew_; clear hg_ hnew_; (first | rw [← Ny197.out] at ho39 | (simp only [Int.reduceToNat] at ho39; rw [← Ny197.out] at ho39)); have n0_ := Aside0.mk (Kd.N_lower ho39 below_sizeA); have n1_ := Aside0.mk (blk_keepA BK193.out hb); have n2_ := Aside0.mk (below_stepA hb); clear BK193; clear HB; clear HO196; have HO199 := n0_; have BK193 := n1_; have HB := n2_; clear n0_ n1_ n2_; clear hb ho39; obtain ⟨Ao40, co40, eo40⟩ := Kd.N_slice HO199.out; subst eo40) | ((with_reducible refine gate_dst (N := 2) rfl ?_); (try (refine gate_guard (by rfl) ?_; dsimp only)); refine box_event ?hg (N := 2) ?hd (cs := #[.slice none 0 0, .slice none 0 0]) (t := 25) ?hr ?_; (case hd => rfl); (case hg => rfl); (case hr => first | (go_simp; done) | (go_simp; rfl)); intro gb200 hg w41 hbox hb; have BK200 := Aside0.mk (hbox); have GW200 := Aside0.mk ((by rw [hg]; exact below_sizeA : w.heap.size ≤ gb200)); have GE200 := GW200; have NB193_200 := Aside0.mk ((by rw [hg]; exact Nat.ne_of_lt (blk_ltKA BK193.out) : gb193 ≠ gb200)); have NB200_193 := Aside0.mk NB193_200.out.symm; replace HO199 := Aside0.mk (Kd.N_below (Kd.N_elderB (by (with_reducible repeat (first | apply Kd.N_alloc | apply Kd.N_drewN | apply Kd.N_drew)); exact HO199.out) gb200 (Nat.le_of_eq hg.symm)) hb); replace BK193 := Aside0.mk (blk_keepA BK193.out hb); replace HB := Aside0.mk (below_stepA hb); clear hb hbox hg; have hnb42 := NB200_193.out; have hnc42 := NB193_200.out; have hz43 := blk2 BK200.out; have hz44 := blk6 BK193.out) | ((with_reducible refine gate_callee (f := 9) rfl ?_); refine goesL_ (some 18) rfl rfl Try.func9 (by kernel_rfl) rfl #[.agg #[.slice none 0 0, .slice Ao40 y197.length co40], .agg #[.int .i64 2, .int .i64 0, .int .i64 10, .int .i64 5, .int .i64 3, .int .i64 20]] rfl mapA ?_; (refine (bounds_Analyze.calls k _ _ ([] : List (S95)) _ _ y197 2 0 10 5 3 20 t201 t204 t205 _ ?side1 ?side2 ?side3 ?side4 A1.out).mono ?_); (case side1 => exact Kd.C_nil _ _); (case side2 => exact Nat.le_refl _); (case side3 => refine (Kd.N_reads' (e := 44) (base := w.heap.size) (ok := fun k_ => (k_ ≠ gb193 ∧ k_ ≠ gb200)) (n := y197.length) (c := co40) ?_).2.2; exact (by (with_reducible repeat (first | apply Kd.N_alloc | apply Kd.N_drewN | apply Kd.N_drew)); exact (Kd.N_mono (Kd.N_far (p := ⟨gb200, 1, none⟩) (Kd.N_far (p := ⟨gb200, 0, none⟩) (Kd.N_mono HO199.out (fun k_ hk => (⟨hk, hk.2⟩ : _ ∧ k_ ≠ gb200))) (fun _ hk => hk.2) (.slice none 0 0)) (fun _ hk => hk.2) (.slice Ao40 y197.length co40)) (fun _ h_ => h_.1)))); (case side4 => exact (Kd.N_reads' HO199.out).2.1); rintro e w45 ⟨v202, rfl, ho0, hb⟩; refine ⟨_, rfl, ?_⟩; have HO203 := Aside0.mk (Kd.R_lower ho0 below_sizeA); replace HO199 := Aside0.mk (Kd.N_elder' (by (with_reducible repeat (first | apply Kd.N_alloc | apply Kd.N_drewN | apply Kd.N_drew)); exact (Kd.N_mono (Kd.N_far (p := ⟨gb200, 1, none⟩) (Kd.N_far (p := ⟨gb200, 0, none⟩) (Kd.N_mono HO199.out (fun k_ hk => (⟨hk, hk.2⟩ : _ ∧ k_ ≠ gb200))) (fun _ hk => hk.2) (.slice none 0 0)) (fun _ hk => hk.2) (.slice Ao40 y197.length co40)) (fun _ h_ => h_.1))) (Kd.R_base ho0) hb); replace BK193 := Aside0.mk (blk_keepA BK193.out hb); replace BK200 := Aside0.mk (blk_below (g := gb200) (o := .cells #[.slice none 0 0, .slice Ao40 y197.length co40] 25 (0, 0)) (blk_move BK200.out) hb); replace HB := Aside0.mk (below_stepA hb); (try clear hb); (try clear ho0); have hz46 := blk2 BK200.out; have p3 : 0 ≤ (1 : Int) := (by omega); have q3 : (1 : Int) < ((y197.length : Int) : Int) := odA; have qi3 : (1 < y197.length) = True := eq_true (by omega); obtain ⟨go3, co3, eo3, gb3, gl3, cl3, HG3⟩ := Kd.N_form HO199.out (by omega); (first | cases eo3 | (injection eo3 with ea_ en_ ec_; (first | subst ea_ | (injection ea_ with ea_; subst ea_)); subst ec_; clear en_)); have GB3 := Aside0.mk gb3; have GG3 := Aside0.mk HG3; clear gb3 gl3 HG3; obtain ⟨ce3, hcl3, hM3, hcc3, hfr3⟩ := Kd.N_elem HO199.out z44 (1 : Int) p3 q3; obtain ⟨ua3_1, uc3_1, ua3_4, uc3_4, ua3_8, uc3_8, ua3_9, uc3_9, ua3_13, uc3_13, ua3_14, uc3_14, ua3_15, uc3_15, rfl, ul3_1, ge3_1, ul3_4, ge3_4, ul3_8, ge3_8, ul3_9, ge3_9, ul3_13, ge3_13, ul3_14, ge3_14, ul3_15, ge3_15⟩ := k44_openF hM3; have hx3_0 : w45.cell? ⟨go3, (1 : Int).toNat * 16, none⟩ = some (.int .i64 ((rd_T44 y197 1).f0)) := hcc3 0 _ rfl; have hx3_1 : w45.cell? ⟨go3, (1 : Int).toNat * 16 + 1, none⟩ = some (.slice ua3_1 ((rd_T44 y197 1).f1).length uc3_1) := hcc3 1 _ rfl; have hx3_2 : w45.cell? ⟨go3, (1 : Int).toNat * 16 + 2, none⟩ = some (.string ((rd_T44 y197 1).f2)) := hcc3 2 _ rfl; have hx3_3 : w45.cell? ⟨go3, (1 : Int).toNat * 16 + 3, none⟩ = some (.int .i64 ((rd_T44 y197 1).f3)) := hcc3 3 _ rfl; have hx3_4 : w45.cell? ⟨go3, (1 : Int).toNat * 16 + 4, none⟩ = some (.slice ua3_4 ((rd_T44 y197 1).f4).length uc3_4) := hcc3 4 _ rfl; have hx3_5 : w45.cell? ⟨go3, (1 : Int).toNat * 16 + 5, none⟩ = some (.int .i64 ((rd_T44 y197 1).f5)) := hcc3 5 _ rfl; have hx3_6 : w45.cell? ⟨go3, (1 : Int).toNat * 16 + 6, none⟩ = some (.int .i64 ((rd_T44 y197 1).f6)) := hcc3 6 _ rfl; have hx3_7 : w45.cell? ⟨go3, (1 : Int).toNat * 16 + 7, none⟩ = some (.int .i64 ((rd_T44 y197 1).f7)) := hcc3 7 _ rfl; have hx3_8 : w45.cell? ⟨go3, (1 : Int).toNat * 16 + 8, none⟩ = some (.slice ua3_8 ((rd_T44 y197 1).f8).length uc3_8) := hcc3 8 _ rfl; have hx3_9 : w45.cell? ⟨go3, (1 : Int).toNat * 16 + 9, none⟩ = some (.slice ua3_9 ((rd_T44 y197 1).f9).length uc3_9) := hcc3 9 _ rfl; have hx3_10 : w45.cell? ⟨go3, (1 : Int).toNat * 16 + 10, none⟩ = some (.int .i64 ((rd_T44 y197 1).f10)) := hcc3 10 _ rfl; have hx3_11 : w45.cell? ⟨go3, (1 : Int).toNat * 16 + 11, none⟩ = some (.int .i64 ((rd_T44 y197 1).f11)) := hcc3 11 _ rfl; have hx3_12 : w45.cell? ⟨go3, (1 : Int).toNat * 16 + 12, none⟩ = some (.int .i64 ((rd_T44 y197 1).f12)) := hcc3 12 _ rfl; have hx3_13 : w45.cell? ⟨go3, (1 : Int).toNat * 16 + 13, none⟩ = some (.slice ua3_13 ((rd_T44 y197 1).f13).length uc3_13) := hcc3 13 _ rfl; have hx3_14 : w45.cell? ⟨go3, (1 : Int).toNat * 16 + 14, none⟩ = some (.slice ua3_14 ((rd_T44 y197 1).f14).length uc3_14) := hcc3 14 _ rfl; have hx3_15 : w45.cell? ⟨go3, (1 : Int).toNat * 16 + 15, none⟩ = some (.slice ua3_15 ((rd_T44 y197 1).f15).length uc3_15) := hcc3 15 _ rfl; have hf3_0 : w45.frozen? ⟨go3, (1 : Int).toNat * 16, none⟩ = false := hfr3 0; have hf3_1 : w45.frozen? ⟨go3, (1 : Int).toNat * 16 + 1, none⟩ = false := hfr3 1; have hf3_2 : w45.frozen? ⟨go3, (1 : Int).toNat * 16 + 2, none⟩ = false := hfr3 2; have hf3_3 : w45.frozen? ⟨go3, (1 : Int).toNat * 16 + 3, none⟩ = false := hfr3 3; have hf3_4 : w45.frozen? ⟨go3, (1 : Int).toNat * 16 + 4, none⟩ = false := hfr3 4; have hf3_5 : w45.frozen? ⟨go3, (1 : Int).toNat * 16 + 5, none⟩ = false := hfr3 5; have hf3_6 : w45.frozen? ⟨go3, (1 : Int).toNat * 16 + 6, none⟩ = false := hfr3 6; have hf3_7 : w45.frozen? ⟨go3, (1 : Int).toNat * 16 + 7, none⟩ = false := hfr3 7; have hf3_8 : w45.frozen? ⟨go3, (1 : Int).toNat * 16 + 8, none⟩ = false := hfr3 8; have hf3_9 : w45.frozen? ⟨go3, (1 : Int).toNat * 16 + 9, none⟩ = false := hfr3 9; have hf3_10 : w45.frozen? ⟨go3, (1 : Int).toNat * 16 + 10, none⟩ = false := hfr3 10; have hf3_11 : w45.frozen? ⟨go3, (1 : Int).toNat * 16 + 11, none⟩ = false := hfr3 11; have hf3_12 : w45.frozen? ⟨go3, (1 : Int).toNat * 16 + 12, none⟩ = false := hfr3 12; have hf3_13 : w45.frozen? ⟨go3, (1 : Int).toNat * 16 + 13, none⟩ = false := hfr3 13; have hf3_14 : w45.frozen? ⟨go3, (1 : Int).toNat * 16 + 14, none⟩ = false := hfr3 14; have hf3_15 : w45.frozen? ⟨go3, (1 : Int).toNat * 16 + 15, none⟩ = false := hfr3 15; clear hcl3 hcc3 hfr3 hM3; (try rw [show ((1 : Int)).toNat = 1 from rfl] at hx3_0); (try simp only [Nat.reduceMul, Nat.zero_mul, Nat.zero_add, Nat.reduceAdd] at hx3_0); (try rw [show ((1 : Int)).toNat = 1 from rfl] at hf3_0); (try simp only [Nat.reduceMul, Nat.zero_mul, Nat.zero_add, Nat.reduceAdd] at hf3_0); (try rw [show ((1 : Int)).toNat = 1 from rfl] at hx3_1); (try simp only [Nat.reduceMul, Nat.zero_mul, Nat.zero_add, Nat.reduceAdd] at hx3_1); (try rw [show ((1 : Int)).toNat = 1 from rfl] at hf3_1); (try simp only [Nat.reduceMul, Nat.zero_mul, Nat.zero_add, Nat.reduceAdd] at hf3_1); (try rw [show ((1 : Int)).toNat = 1 from rfl] at hx3_2); (try simp only [Nat.reduceMul, Nat.zero_mul, Nat.zero_add, Nat.reduceAdd] at hx3_2); (try rw [show ((1 : Int)).toNat = 1 from rfl] at hf3_2); (try simp only [Nat.reduceMul, Nat.zero_mul, Nat.zero_add, Nat.reduceAdd] at hf3_2); (try rw [show ((1 : Int)).toNat = 1 from rfl] at hx3_3); (try simp only [Nat.reduceMul, Nat.zero_mul, Nat.zero_add, Nat.reduceAdd] at hx3_3); (try rw [show ((1 : Int)).toNat = 1 from rfl] at hf3_3); (try simp only [Nat.reduceMul, Nat.zero_mul, Nat.zero_add, Nat.reduceAdd] at hf3_3); (try rw [show ((1 : Int)).toNat = 1 from rfl] at hx3_4); (try simp only [Nat.reduceMul, Nat.zero_mul, Nat.zero_add, Nat.reduceAdd] at hx3_4); (try rw [show ((1 : Int)).toNat = 1 from rfl] at hf3_4); (try simp only [Nat.reduceMul, Nat.zero_mul, Nat.zero_add, Nat.reduceAdd] at hf3_4); (try rw [show ((1 : Int)).toNat = 1 from rfl] at hx3_5); (try simp only [Nat.reduceMul, Nat.zero_mul, Nat.zero_add, Nat.reduceAdd] at hx3_5); (try rw [show ((1 : Int)).toNat = 1 from rfl] at hf3_5); (try simp only [Nat.reduceMul, Nat.zero_mul, Nat.zero_add, Nat.reduceAdd] at hf3_5); (try rw [show ((1 : Int)).toNat = 1 from rfl] at hx3_6); (try simp only [Nat.reduceMul, Nat.zero_mul, Nat.zero_add, Nat.reduceAdd] at hx3_6); (try rw [show ((1 : Int)).toNat = 1 from rfl] at hf3_6); (try simp only [Nat.reduceMul, Nat.zero_mul, Nat.zero_add, Nat.reduceAdd] at hf3_6); (try rw [show ((1 : Int)).toNat = 1 from rfl] at hx3_7); (try simp only [Nat.reduceMul, Nat.zero_mul, Nat.zero_add, Nat.reduceAdd] at hx3_7); (try rw [show ((1 : Int)).toNat = 1 from rfl] at hf3_7); (try simp only [Nat.reduceMul, Nat.zero_mul, Nat.zero_add, Nat.reduceAdd] at hf3_7); (try rw [show ((1 : Int)).toNat = 1 from rfl] at hx3_8); (try simp only [Nat.reduceMul, Nat.zero_mul, Nat.zero_add, Nat.reduceAdd] at hx3_8); (try rw [show ((1 : Int)).toNat = 1 from rfl] at hf3_8); (try simp only [Nat.reduceMul, Nat.zero_mul, Nat.zero_add, Nat.reduceAdd] at hf3_8); (try rw [show ((1 : Int)).toNat = 1 from rfl] at hx3_9); (try simp only [Nat.reduceMul, Nat.zero_mul, Nat.zero_add, Nat.reduceAdd] at hx3_9); (try rw [show ((1 : Int)).toNat = 1 from rfl] at hf3_9); (try simp only [Nat.reduceMul, Nat.zero_mul, Nat.zero_add, Nat.reduceAdd] at hf3_9); (try rw [show ((1 : Int)).toNat = 1 from rfl] at hx3_10); (try simp only [Nat.reduceMul, Nat.zero_mul, Nat.zero_add, Nat.reduceAdd] at hx3_10); (try rw [show ((1 : Int)).toNat = 1 from rfl] at hf3_10); (try simp only [Nat.reduceMul, Nat.zero_mul, Nat.zero_add, Nat.reduceAdd] at hf3_10); (try rw [show ((1 : Int)).toNat = 1 from rfl] at hx3_11); (try simp only [Nat.reduceMul, Nat.zero_mul, Nat.zero_add, Nat.reduceAdd] at hx3_11); (try rw [show ((1 : Int)).toNat = 1 from rfl] at hf3_11); (try simp only [Nat.reduceMul, Nat.zero_mul, Nat.zero_add, Nat.reduceAdd] at hf3_11); (try rw [show ((1 : Int)).toNat = 1 from rfl] at hx3_12); (try simp only [Nat.reduceMul, Nat.zero_mul, Nat.zero_add, Nat.reduceAdd] at hx3_12); (try rw [show ((1 : Int)).toNat = 1 from rfl] at hf3_12); (try simp only [Nat.reduceMul, Nat.zero_mul, Nat.zero_add, Nat.reduceAdd] at hf3_12); (try rw [show ((1 : Int)).toNat = 1 from rfl] at hx3_13); (try simp only [Nat.reduceMul, Nat.zero_mul, Nat.zero_add, Nat.reduceAdd] at hx3_13); (try rw [show ((1 : Int)).toNat = 1 from rfl] at hf3_13); (try simp only [Nat.reduceMul, Nat.zero_mul, Nat.zero_add, Nat.reduceAdd] at hf3_13); (try rw [show ((1 : Int)).toNat = 1 from rfl] at hx3_14); (try simp only [Nat.reduceMul, Nat.zero_mul, Nat.zero_add, Nat.reduceAdd] at hx3_14); (try rw [show ((1 : Int)).toNat = 1 from rfl] at hf3_14); (try simp only [Nat.reduceMul, Nat.zero_mul, Nat.zero_add, Nat.reduceAdd] at hf3_14); (try rw [show ((1 : Int)).toNat = 1 from rfl] at hx3_15); (try simp only [Nat.reduceMul, Nat.zero_mul, Nat.zero_add, Nat.reduceAdd] at hx3_15); (try rw [show ((1 : Int)).toNat = 1 from rfl] at hf3_15); (try simp only [Nat.reduceMul, Nat.zero_mul, Nat.zero_add, Nat.reduceAdd] at hf3_15); replace p3 := eq_true p3; replace q3 := eq_true q3; have n_ := Aside0.mk (Kd.N_mono (ok' := (fun k_ => some k_ ≠ (v202 : Value).ownBlock ∧ k_ ≠ gb193 ∧ k_ ≠ gb200)) HO199.out (fun k_ hk => ⟨hk.2, ⟨hk.1.1, hk.1.2⟩⟩)); clear HO199; have HO199 := n_; clear n_; have HX47 := Aside0.mk (show Kd.N k44 44 w45 w.heap.size (fun k_ => some k_ ≠ (v202 : Value).ownBlock ∧ k_ ≠ gb193 ∧ k_ ≠ gb200) (.slice (some ⟨go3, 0, none⟩) y197.length co40) y197 from (by (with_reducible repeat (first | apply Kd.N_alloc | apply Kd.N_drewN | apply Kd.N_drew)); exact HO199.out)); obtain ⟨ce47, hcl47, hM47, hcc47, hfr47⟩ := Kd.N_elem HX47.out z44 (1 : Int) (by omega) (by have h_ : (1 : Int) < ((y197.length : Int) : Int) := odA; first | exact h_ | (have e_ := (Kd.N_reads' HO199.out).1; omega) | simpa using h_); obtain ⟨ua47_1, uc47_1, ua47_4, uc47_4, ua47_8, uc47_8, ua47_9, uc47_9, ua47_13, uc47_13, ua47_14, uc47_14, ua47_15, uc47_15, rfl, ul47_1, ge47_1, ul47_4, ge47_4, ul47_8, ge47_8, ul47_9, ge47_9, ul47_13, ge47_13, ul47_14, ge47_14, ul47_15, ge47_15⟩ := k44_openF hM47; have HP47 := Kd.N_seg HX47.out (1 : Int) (by omega) (by have h_ : (1 : Int) < ((y197.length : Int) : Int) := odA; first | exact h_ | (have e_ := (Kd.N_reads' HO199.out).1; omega) | simpa using h_) (seg := [.int .i64 (-1)]) (j := 6) hcl47 hcc47 (show 7 ≤ 16 from by decide) (x' := (⟨(rd_T44 y197 1).f0, (rd_T44 y197 1).f1, (rd_T44 y197 1).f2, (rd_T44 y197 1).f3, (rd_T44 y197 1).f4, (rd_T44 y197 1).f5, (-1), (rd_T44 y197 1).f7, (rd_T44 y197 1).f8, (rd_T44 y197 1).f9, (rd_T44 y197 1).f10, (rd_T44 y197 1).f11, (rd_T44 y197 1).f12, (rd_T44 y197 1).f13, (rd_T44 y197 1).f14, (rd_T44 y197 1).f15⟩ : S44)) (k44_mkF _ _ (⟨(rd_T44 y197 1).f0, (rd_T44 y197 1).f1, (rd_T44 y197 1).f2, (rd_T44 y197 1).f3, (rd_T44 y197 1).f4, (rd_T44 y197 1).f5, (-1), (rd_T44 y197 1).f7, (rd_T44 y197 1).f8, (rd_T44 y197 1).f9, (rd_T44 y197 1).f10, (rd_T44 y197 1).f11, (rd_T44 y197 1).f12, (rd_T44 y197 1).f13, (rd_T44 y197 1).f14, (rd_T44 y197 1).f15⟩ : S44) ul47_1 ge47_1 ul47_4 ge47_4 ul47_8 ge47_8 ul47_9 ge47_9 ul47_13 ge47_13 ul47_14 ge47_14 ul47_15 ge47_15) (fun _ hk => hk); have hx47_6 := hcc47 6 _ rfl; (try simp only [show (k44).sz = 16 from rfl, Nat.mul_one, Nat.add_zero] at hx47_6); (try rw [show ((1 : Int)).toNat = 1 from rfl] at hx47_6); (try simp only [Nat.reduceMul, Nat.zero_mul, Nat.zero_add, Nat.reduceAdd] at hx47_6); have hf47_6 := hfr47 6; (try simp only [show (k44).sz = 16 from rfl, Nat.mul_one, Nat.add_zero] at hf47_6); (try rw [show ((1 : Int)).toNat = 1 from rfl] at hf47_6); (try simp only [Nat.reduceMul, Nat.zero_mul, Nat.zero_add, Nat.reduceAdd] at hf47_6); clear hcl47 hcc47 hfr47 hM47) | ((with_reducible refine gate_store (t := 3) (p := 25) rfl ?_); refine store_event (t := 3) (p := 25) (v := ?vo_w48) (w1 := (w45.setCell ⟨go3, 22, none⟩ (.int .i64 (-1)))) ?hg ?ho ?hn ?hr ?_; (case ho => rfl); (case hg => rfl); (case hn => rfl); (case hr => first | (go_simp; done) | (go_simp; rfl)); intro w48 hw; have hg : w45.grownBy w48 (some go3) := (by rw [hw]; exact HP47.2); have hp_ : Kd.N k44 44 w48 w.heap.size (fun k_ => some k_ ≠ (v202 : Value).ownBlock ∧ k_ ≠ gb193 ∧ k_ ≠ gb200) (.slice (some ⟨go3, 0, none⟩) y197.length co40) y206 := (by rw [hw, Ny206.out]; exact HP47.1); clear HP47; have n0_ := Aside0.mk (blk_grown (g := gb193) (o := .cells #[.int .i64 2, .int .i64 0, .int .i64 10, .int .i64 5, .int .i64 3, .int .i64 20] 27 (0, 0)) (blk_move BK193.out) hg (Kd.N_ne HO199.out BK193.out (by decide))); have n1_ := Aside0.mk (hp_); have n2_ := Aside0.mk (blk_grown (g := gb200) (o := .cells #[.slice none 0 0, .slice (some ⟨go3, 0, none⟩) y197.length co40] 25 (0, 0)) (blk_move BK200.out) hg (Kd.N_ne HO199.out BK200.out (by decide))); have n3_ := Aside0.mk (Kd.R_over' (v := (.slice (some ⟨go3, 0, none⟩) y197.length co40)) (by (with_reducible repeat (first | apply Kd.R_alloc | apply Kd.R_drewN | apply Kd.R_drew)); exact HO203.out) (Kd.N_typed HO199.out) (by decide) hg); have n4_ := Aside0.mk ((by rw [hw]; exact below_set (HB.out) GB3.out : Below w.heap.size w w48)); clear BK193; clear HO199; clear BK200; clear HO203; clear HB; have BK193 := n0_; have HO199 := n1_; have BK200 := n2_; have HO203 := n3_; have HB := n4_; clear n0_ n1_ n2_ n3_ n4_; clear hg hw hp_; have hz49 := blk2 BK200.out; have hz50 := blk6 BK193.out) | ((with_reducible refine gate_callee (f := 9) rfl ?_); refine goesL_ (some 29) rfl rfl Try.func9 (by kernel_rfl) rfl #[.agg #[.slice none 0 0, .slice (some ⟨go3, 0, none⟩) y206.length co40], .agg #[.int .i64 2, .int .i64 0, .int .i64 10, .int .i64 5, .int .i64 3, .int .i64 20]] rfl (by (try simp only [List.map_toArray, List.map_cons, List.map_nil]); first | done | (rw [show y206.length = y197.length from (Kd.N_reads' HO199.out).1.symm] <;> rfl) | rfl | (simp only [List.length_drop, List.length_take]; rfl)) ?_; (refine (bounds_Analyze.calls k _ _ ([] : List (S95)) _ _ y206 2 0 10 5 3 20 t207 t210 t211 _ ?side1 ?side2 ?side3 ?side4 A4.out).mono ?_); (case side1 => exact Kd.C_nil _ _); (case side2 => exact Nat.le_refl _); (case side3 => repeat (first | exact (Kd.N_reads' HO199.out).2.2 | (with_reducible refine Kd.C_alloc ?_ _) | (with_reducible refine Kd.C_drewN ?_ _) | (with_reducible refine Kd.C_drew ?_))); (case side4 => rw [show y206.length = y197.length from (Kd.N_reads' HO199.out).1.symm]; exact (Kd.N_reads' HO199.out).2.1); rintro e w51 ⟨v208, rfl, ho0, hb⟩; refine ⟨_, rfl, ?_⟩; have HO209 := Aside0.mk (Kd.R_lower (Kd.R_new' ho0 (Kd.R_lt (by (with_reducible repeat (first | apply Kd.R_alloc | apply Kd.R_drewN | apply Kd.R_drew)); exact HO203.out))) below_sizeA); replace HO199 := Aside0.mk (Kd.N_elder' (by (with_reducible repeat (first | apply Kd.N_alloc | apply Kd.N_drewN | apply Kd.N_drew)); exact HO199.out) (Kd.R_base ho0) hb); replace HO203 := Aside0.mk (Kd.R_elder' (by (with_reducible repeat (first | apply Kd.R_alloc | apply Kd.R_drewN | apply Kd.R_drew)); exact HO203.out) (Kd.R_base ho0) hb); replace BK193 := Aside0.mk (blk_keepA BK193.out hb); replace BK200 := Aside0.mk (blk_keepA BK200.out hb); replace HB := Aside0.mk (below_stepA hb); (try clear hb); (try clear ho0)) | ((with_reducible refine gate_dst (N := 43) rfl ?_); (try (refine gate_guard (by rfl) ?_; dsimp only)); refine Kd.R_lit k37 _ 37 ?hg (N := 43) ?hd (xs := ([(⟨0, 0, 6, 0⟩ : S37), (⟨59, 59, 360, 474⟩ : S37)] : List (S37))) (inner := [.int .i64 0, .int .i64 0, .int .i64 6, .int .i64 0, .int .i64 59, .int .i64 59, .int .i64 360, .int .i64 474]) (ok := fun _ => True) (okp := fun _ => True) ?hr ?hp (fun _ hk => hk) trivial (Below.refl _ _) (Nat.le_refl _) (by simp) ?_; (case hd => rfl); (case hg => rfl); (case hr => first | (go_simp; done) | (go_simp; rfl)); (case hp => exact (Reps.c4 (show Kd.M k37 _ _ _ (⟨0, 0, 6, 0⟩ : S37) [.int .i64 0, .int .i64 0, .int .i64 6, .int .i64 0] from (k37_mkM _ _ _ (⟨0, 0, 6, 0⟩ : S37) )) (Reps.c4 (show Kd.M k37 _ _ _ (⟨59, 59, 360, 474⟩ : S37) [.int .i64 59, .int .i64 59, .int .i64 360, .int .i64 474] from (k37_mkM _ _ _ (⟨59, 59, 360, 474⟩ : S37) )) (Reps.none _ _)))); intro v213 w52 ho53 hb hg_ hnew_; clear hg_ hnew_; (first | rw [← Ny212.out] at ho53 | (simp only [Int.reduceToNat] at ho53; rw [← Ny212.out] at ho53)); have HO214 := Aside0.mk (Kd.R_lower (Kd.R_new' (Kd.R_new' ho53 (Kd.R_lt (by (with_reducible repeat (first | apply Kd.R_alloc | apply Kd.R_drewN | apply Kd.R_drew)); exact HO203.out))) (Kd.R_lt (by (with_reducible repeat (first | apply Kd.R_alloc | apply Kd.R_drewN | apply Kd.R_drew)); exact HO209.out))) below_sizeA); replace HO199 := Aside0.mk (Kd.N_elder' (by (with_reducible repeat (first | apply Kd.N_alloc | apply Kd.N_drewN | apply Kd.N_drew)); exact HO199.out) (Kd.R_base ho53) hb); replace HO203 := Aside0.mk (Kd.R_elder' (by (with_reducible repeat (first | apply Kd.R_alloc | apply Kd.R_drewN | apply Kd.R_drew)); exact HO203.out) (Kd.R_base ho53) hb); replace HO209 := Aside0.mk (Kd.R_elder' (by (with_reducible repeat (first | apply Kd.R_alloc | apply Kd.R_drewN | apply Kd.R_drew)); exact HO209.out) (Kd.R_base ho53) hb); replace BK193 := Aside0.mk (blk_keepA BK193.out hb); replace BK200 := Aside0.mk (blk_keepA BK200.out hb); replace HB := Aside0.mk (below_stepA hb); clear hb ho53; obtain ⟨Ao54, co54, eo54⟩ := Kd.R_slice HO203.out; subst eo54; obtain ⟨Ao55, co55, eo55⟩ := Kd.R_slice HO214.out; subst eo55) | (go_at_call 11; (with_reducible refine (errataref20_Same.calls k _ _ t201 _ _ y212 true _ ?side1 ?side2 ?side3 ?side4 A7.out).mono ?_); (case side1 => repeat (first | exact (Kd.R_reads' HO203.out).2.2 | (with_reducible refine Kd.C_alloc ?_ _) | (with_reducible refine Kd.C_drewN ?_ _) | (with_reducible refine Kd.C_drew ?_))); (case side2 => exact (Kd.R_reads' HO203.out).2.1); (case side3 => repeat (first | exact (Kd.R_reads' HO214.out).2.2 | (with_reducible refine Kd.C_alloc ?_ _) | (with_reducible refine Kd.C_drewN ?_ _) | (with_reducible refine Kd.C_drew ?_))); (case side4 => exact (Kd.R_reads' HO214.out).2.1); rintro e w' ⟨rfl, ⟨nd, rfl⟩⟩))
     go_ret
     exact ⟨by first | rfl | (simp [errW_none, errW_some] <;> rfl) | (simp [*, errW_none, errW_some] <;> rfl), belowA⟩
   ·
    replace c8 := Bool.eq_false_iff.mpr c8
    subst c8
    rw [if_neg (show ¬ (false = true) by decide)] at H
    obtain rfl := Option.some.inj H
    go_enter Try.func7, Try.ntmps7
    go_wp2_with (first | ((with_reducible refine gate_dst (N := 1) rfl ?_); (try (refine gate_guard (by rfl) ?_; dsimp only)); refine box_event ?hg (N := 1) ?hd (cs := #[.int .i64 0, .int .i64 0, .int .i64 0, .int .i64 0, .int .i64 0, .int .i64 0]) (t := 27) ?hr ?_; (case hd => rfl); (case hg => rfl); (case hr => first | (go_simp; done) | (go_simp; rfl)); intro gb193 hg w56 hbox hb; have BK193 := Aside0.mk (hbox); have GW193 := Aside0.mk ((by rw [hg]; exact below_sizeA : w.heap.size ≤ gb193)); have GE193 := GW193; replace HB := Aside0.mk (below_stepA hb); clear hb hbox hg; have hz57 := blk6 BK193.out) | ((with_reducible refine gate_dst (N := 11) rfl ?_); (try (refine gate_guard (by rfl) ?_; dsimp only)); refine Kd.R_lit (Kd.int .i64) _ 3 ?hg (N := 11) ?hd (xs := ([0] : List Int)) (inner := [.int .i64 0]) (ok := fun _ => True) (okp := fun _ => True) ?hr ?hp (fun _ hk => hk) trivial (Below.refl _ _) (Nat.le_refl _) (by simp) ?_; (case hd => rfl); (case hg => rfl); (case hr => first | (go_simp; done) | (go_simp; rfl)); (case hp => exact (Reps.one (show Kd.M (Kd.int .i64) _ _ _ 0 [.int .i64 0] from rfl) (Reps.none _ _))); intro v195 w58 ho59 hb hg_ hnew_; clear hg_ hnew_; (first | rw [← Ny194.out] at ho59 | (simp only [Int.reduceToNat] at ho59; rw [← Ny194.out] at ho59)); have HO196 := Aside0.mk (Kd.R_lower ho59 below_sizeA); replace BK193 := Aside0.mk (blk_below (g := gb193) (o := .cells #[.int .i64 2, .int .i64 0, .int .i64 10, .int .i64 5, .int .i64 3, .int .i64 20] 27 (0, 0)) (blk_move BK193.out) hb); replace HB := Aside0.mk (below_stepA hb); clear hb ho59; obtain ⟨Ao60, co60, eo60⟩ := Kd.R_slice HO196.out; subst eo60) | ((with_reducible refine gate_dst (N := 13) rfl ?_); (try (refine gate_guard (by rfl) ?_; dsimp only)); refine Kd.N_lit k44 _ 44 ?hg (N' := 13) ?hd (xs := ([(⟨0, ([] : List Int), (⟨#[]⟩ : ByteArray), 0, ([] : List (S93)), 0, 0, 0, ([] : List Int), ([] : List Int), 0, 0, 0, ([] : List (S97)), ([] : List (S99)), ([] : List (S50))⟩ : S44), (⟨4, y194, (⟨#[]⟩ : ByteArray), 0, ([] : List (S93)), 0, 60, 0, ([] : List Int), ([] : List Int), 0, 0, 0, ([] : List (S97)), ([] : List (S99)), ([] : List (S50))⟩ : S44)] : List (S44))) (inner := [.int .i64 0, .slice none 0 0, .string (⟨#[]⟩ : ByteArray), .int .i64 0, .slice none 0 0, .int .i64 0, .int .i64 0, .int .i64 0, .slice none 0 0, .slice none 0 0, .int .i64 0, .int .i64 0, .int .i64 0, .slice none 0 0, .slice none 0 0, .slice none 0 0, .int .i64 4, .slice Ao60 y194.length co60, .string (⟨#[]⟩ : ByteArray), .int .i64 0, .slice none 0 0, .int .i64 0, .int .i64 60, .int .i64 0, .slice none 0 0, .slice none 0 0, .int .i64 0, .int .i64 0, .int .i64 0, .slice none 0 0, .slice none 0 0, .slice none 0 0]) (ok := (fun k_ => k_ ≠ gb193)) (okp := (fun k_ => k_ ≠ gb193)) ?hr ?hp (fun _ hk => hk) ((show ∀ k_, w58.heap.size ≤ k_ → (fun k_ => k_ ≠ gb193) k_ from fun k_ hk => Kd.freshB (g := gb193) (o := .cells #[.int .i64 2, .int .i64 0, .int .i64 10, .int .i64 5, .int .i64 3, .int .i64 20] 27 (0, 0)) (blk_move BK193.out) k_ hk) _ (Nat.le_refl _)) (Below.refl _ _) (Nat.le_refl _) (by simp) ?_; (case hd => rfl); (case hg => rfl); (case hr => first | (go_simp; done) | (go_simp; rfl)); (case hp => exact (Reps.front (show Kd.FK k44 _ _ (⟨0, ([] : List Int), (⟨#[]⟩ : ByteArray), 0, ([] : List (S93)), 0, 0, 0, ([] : List Int), ([] : List Int), 0, 0, 0, ([] : List (S97)), ([] : List (S99)), ([] : List (S50))⟩ : S44) [.int .i64 0, .slice none 0 0, .string (⟨#[]⟩ : ByteArray), .int .i64 0, .slice none 0 0, .int .i64 0, .int .i64 0, .int .i64 0, .slice none 0 0, .slice none 0 0, .int .i64 0, .int .i64 0, .int .i64 0, .slice none 0 0, .slice none 0 0, .slice none 0 0] from (k44_mkF _ _ (⟨0, ([] : List Int), (⟨#[]⟩ : ByteArray), 0, ([] : List (S93)), 0, 0, 0, ([] : List Int), ([] : List Int), 0, 0, 0, ([] : List (S97)), ([] : List (S99)), ([] : List (S50))⟩ : S44) (Nat.le_refl _) (Kd.F_nil _ _ _) (Nat.le_refl _) (Kd.F_nil _ _ _) (Nat.le_refl _) (Kd.F_nil _ _ _) (Nat.le_refl _) (Kd.F_nil _ _ _) (Nat.le_refl _) (Kd.F_nil _ _ _) (Nat.le_refl _) (Kd.F_nil _ _ _) (Nat.le_refl _) (Kd.F_nil _ _ _))) rfl (Reps.front (show Kd.FK k44 _ _ (⟨4, y194, (⟨#[]⟩ : ByteArray), 0, ([] : List (S93)), 0, 60, 0, ([] : List Int), ([] : List Int), 0, 0, 0, ([] : List (S97)), ([] : List (S99)), ([] : List (S50))⟩ : S44) [.int .i64 4, .slice Ao60 y194.length co60, .string (⟨#[]⟩ : ByteArray), .int .i64 0, .slice none 0 0, .int .i64 0, .int .i64 60, .int .i64 0, .slice none 0 0, .slice none 0 0, .int .i64 0, .int .i64 0, .int .i64 0, .slice none 0 0, .slice none 0 0, .slice none 0 0] from (k44_mkF _ _ (⟨4, y194, (⟨#[]⟩ : ByteArray), 0, ([] : List (S93)), 0, 60, 0, ([] : List Int), ([] : List Int), 0, 0, 0, ([] : List (S97)), ([] : List (S99)), ([] : List (S50))⟩ : S44) (Kd.R_reads' (Kd.R_mono (ok' := (fun k_ => k_ ≠ gb193)) (Kd.R_types (HO196.out) BK193.out (by decide)) (fun k_ hk => hk.2))).2.1 (Kd.R_F (Kd.R_mono (ok' := (fun k_ => k_ ≠ gb193)) (Kd.R_types (HO196.out) BK193.out (by decide)) (fun k_ hk => hk.2))) (Nat.le_refl _) (Kd.F_nil _ _ _) (Nat.le_refl _) (Kd.F_nil _ _ _) (Nat.le_refl _) (Kd.F_nil _ _ _) (Nat.le_refl _) (Kd.F_nil _ _ _) (Nat.le_refl _) (Kd.F_nil _ _ _) (Nat.le_refl _) (Kd.F_nil _ _ _))) rfl (Reps.none _ _) rfl) rfl)); intro v198 w61 ho62 hb hg_ hnew_; clear hg_ hnew_; (first | rw [← Ny197.out] at ho62 | (simp only [Int.reduceToNat] at ho62; rw [← Ny197.out] at ho62)); have n0_ := Aside0.mk (Kd.N_lower ho62 below_sizeA); have n1_ := Aside0.mk (blk_keepA BK193.out hb); have n2_ := Aside0.mk (below_stepA hb); clear BK193; clear HB; clear HO196; have HO199 := n0_; have BK193 := n1_; have HB := n2_; clear n0_ n1_ n2_; clear hb ho62; obtain ⟨Ao63, co63, eo63⟩ := Kd.N_slice HO199.out; subst eo63) | ((with_reducible refine gate_dst (N := 2) rfl ?_); (try (refine gate_guard (by rfl) ?_; dsimp only)); refine box_event ?hg (N := 2) ?hd (cs := #[.slice none 0 0, .slice none 0 0]) (t := 25) ?hr ?_; (case hd => rfl); (case hg => rfl); (case hr => first | (go_simp; done) | (go_simp; rfl)); intro gb200 hg w64 hbox hb; have BK200 := Aside0.mk (hbox); have GW200 := Aside0.mk ((by rw [hg]; exact below_sizeA : w.heap.size ≤ gb200)); have GE200 := GW200; have NB193_200 := Aside0.mk ((by rw [hg]; exact Nat.ne_of_lt (blk_ltKA BK193.out) : gb193 ≠ gb200)); have NB200_193 := Aside0.mk NB193_200.out.symm; replace HO199 := Aside0.mk (Kd.N_below (Kd.N_elderB (by (with_reducible repeat (first | apply Kd.N_alloc | apply Kd.N_drewN | apply Kd.N_drew)); exact HO199.out) gb200 (Nat.le_of_eq hg.symm)) hb); replace BK193 := Aside0.mk (blk_keepA BK193.out hb); replace HB := Aside0.mk (below_stepA hb); clear hb hbox hg; have hnb65 := NB200_193.out; have hnc65 := NB193_200.out; have hz66 := blk2 BK200.out; have hz67 := blk6 BK193.out) | ((with_reducible refine gate_callee (f := 9) rfl ?_); refine goesL_ (some 18) rfl rfl Try.func9 (by kernel_rfl) rfl #[.agg #[.slice none 0 0, .slice Ao63 y197.length co63], .agg #[.int .i64 2, .int .i64 0, .int .i64 10, .int .i64 5, .int .i64 3, .int .i64 20]] rfl mapA ?_; (refine (bounds_Analyze.calls k _ _ ([] : List (S95)) _ _ y197 2 0 10 5 3 20 t201 t204 t205 _ ?side1 ?side2 ?side3 ?side4 A1.out).mono ?_); (case side1 => exact Kd.C_nil _ _); (case side2 => exact Nat.le_refl _); (case side3 => refine (Kd.N_reads' (e := 44) (base := w.heap.size) (ok := fun k_ => (k_ ≠ gb193 ∧ k_ ≠ gb200)) (n := y197.length) (c := co63) ?_).2.2; exact (by (with_reducible repeat (first | apply Kd.N_alloc | apply Kd.N_drewN | apply Kd.N_drew)); exact (Kd.N_mono (Kd.N_far (p := ⟨gb200, 1, none⟩) (Kd.N_far (p := ⟨gb200, 0, none⟩) (Kd.N_mono HO199.out (fun k_ hk => (⟨hk, hk.2⟩ : _ ∧ k_ ≠ gb200))) (fun _ hk => hk.2) (.slice none 0 0)) (fun _ hk => hk.2) (.slice Ao63 y197.length co63)) (fun _ h_ => h_.1)))); (case side4 => exact (Kd.N_reads' HO199.out).2.1); rintro e w68 ⟨v202, rfl, ho0, hb⟩; refine ⟨_, rfl, ?_⟩; have HO203 := Aside0.mk (Kd.R_lower ho0 below_sizeA); replace HO199 := Aside0.mk (Kd.N_elder' (by (with_reducible repeat (first | apply Kd.N_alloc | apply Kd.N_drewN | apply Kd.N_drew)); exact (Kd.N_mono (Kd.N_far (p := ⟨gb200, 1, none⟩) (Kd.N_far (p := ⟨gb200, 0, none⟩) (Kd.N_mono HO199.out (fun k_ hk => (⟨hk, hk.2⟩ : _ ∧ k_ ≠ gb200))) (fun _ hk => hk.2) (.slice none 0 0)) (fun _ hk => hk.2) (.slice Ao63 y197.length co63)) (fun _ h_ => h_.1))) (Kd.R_base ho0) hb); replace BK193 := Aside0.mk (blk_keepA BK193.out hb); replace BK200 := Aside0.mk (blk_below (g := gb200) (o := .cells #[.slice none 0 0, .slice Ao63 y197.length co63] 25 (0, 0)) (blk_move BK200.out) hb); replace HB := Aside0.mk (below_stepA hb); (try clear hb); (try clear ho0); have hz69 := blk2 BK200.out; have p3 : 0 ≤ (1 : Int) := (by omega); have q3 : (1 : Int) < ((y197.length : Int) : Int) := odA; have qi3 : (1 < y197.length) = True := eq_true (by omega); obtain ⟨go3, co3, eo3, gb3, gl3, cl3, HG3⟩ := Kd.N_form HO199.out (by omega); (first | cases eo3 | (injection eo3 with ea_ en_ ec_; (first | subst ea_ | (injection ea_ with ea_; subst ea_)); subst ec_; clear en_)); have GB3 := Aside0.mk gb3; have GG3 := Aside0.mk HG3; clear gb3 gl3 HG3; obtain ⟨ce3, hcl3, hM3, hcc3, hfr3⟩ := Kd.N_elem HO199.out z44 (1 : Int) p3 q3; obtain ⟨ua3_1, uc3_1, ua3_4, uc3_4, ua3_8, uc3_8, ua3_9, uc3_9, ua3_13, uc3_13, ua3_14, uc3_14, ua3_15, uc3_15, rfl, ul3_1, ge3_1, ul3_4, ge3_4, ul3_8, ge3_8, ul3_9, ge3_9, ul3_13, ge3_13, ul3_14, ge3_14, ul3_15, ge3_15⟩ := k44_openF hM3; have hx3_0 : w68.cell? ⟨go3, (1 : Int).toNat * 16, none⟩ = some (.int .i64 ((rd_T44 y197 1).f0)) := hcc3 0 _ rfl; have hx3_1 : w68.cell? ⟨go3, (1 : Int).toNat * 16 + 1, none⟩ = some (.slice ua3_1 ((rd_T44 y197 1).f1).length uc3_1) := hcc3 1 _ rfl; have hx3_2 : w68.cell? ⟨go3, (1 : Int).toNat * 16 + 2, none⟩ = some (.string ((rd_T44 y197 1).f2)) := hcc3 2 _ rfl; have hx3_3 : w68.cell? ⟨go3, (1 : Int).toNat * 16 + 3, none⟩ = some (.int .i64 ((rd_T44 y197 1).f3)) := hcc3 3 _ rfl; have hx3_4 : w68.cell? ⟨go3, (1 : Int).toNat * 16 + 4, none⟩ = some (.slice ua3_4 ((rd_T44 y197 1).f4).length uc3_4) := hcc3 4 _ rfl; have hx3_5 : w68.cell? ⟨go3, (1 : Int).toNat * 16 + 5, none⟩ = some (.int .i64 ((rd_T44 y197 1).f5)) := hcc3 5 _ rfl; have hx3_6 : w68.cell? ⟨go3, (1 : Int).toNat * 16 + 6, none⟩ = some (.int .i64 ((rd_T44 y197 1).f6)) := hcc3 6 _ rfl; have hx3_7 : w68.cell? ⟨go3, (1 : Int).toNat * 16 + 7, none⟩ = some (.int .i64 ((rd_T44 y197 1).f7)) := hcc3 7 _ rfl; have hx3_8 : w68.cell? ⟨go3, (1 : Int).toNat * 16 + 8, none⟩ = some (.slice ua3_8 ((rd_T44 y197 1).f8).length uc3_8) := hcc3 8 _ rfl; have hx3_9 : w68.cell? ⟨go3, (1 : Int).toNat * 16 + 9, none⟩ = some (.slice ua3_9 ((rd_T44 y197 1).f9).length uc3_9) := hcc3 9 _ rfl; have hx3_10 : w68.cell? ⟨go3, (1 : Int).toNat * 16 + 10, none⟩ = some (.int .i64 ((rd_T44 y197 1).f10)) := hcc3 10 _ rfl; have hx3_11 : w68.cell? ⟨go3, (1 : Int).toNat * 16 + 11, none⟩ = some (.int .i64 ((rd_T44 y197 1).f11)) := hcc3 11 _ rfl; have hx3_12 : w68.cell? ⟨go3, (1 : Int).toNat * 16 + 12, none⟩ = some (.int .i64 ((rd_T44 y197 1).f12)) := hcc3 12 _ rfl; have hx3_13 : w68.cell? ⟨go3, (1 : Int).toNat * 16 + 13, none⟩ = some (.slice ua3_13 ((rd_T44 y197 1).f13).length uc3_13) := hcc3 13 _ rfl; have hx3_14 : w68.cell? ⟨go3, (1 : Int).toNat * 16 + 14, none⟩ = some (.slice ua3_14 ((rd_T44 y197 1).f14).length uc3_14) := hcc3 14 _ rfl; have hx3_15 : w68.cell? ⟨go3, (1 : Int).toNat * 16 + 15, none⟩ = some (.slice ua3_15 ((rd_T44 y197 1).f15).length uc3_15) := hcc3 15 _ rfl; have hf3_0 : w68.frozen? ⟨go3, (1 : Int).toNat * 16, none⟩ = false := hfr3 0; have hf3_1 : w68.frozen? ⟨go3, (1 : Int).toNat * 16 + 1, none⟩ = false := hfr3 1; have hf3_2 : w68.frozen? ⟨go3, (1 : Int).toNat * 16 + 2, none⟩ = false := hfr3 2; have hf3_3 : w68.frozen? ⟨go3, (1 : Int).toNat * 16 + 3, none⟩ = false := hfr3 3; have hf3_4 : w68.frozen? ⟨go3, (1 : Int).toNat * 16 + 4, none⟩ = false := hfr3 4; have hf3_5 : w68.frozen? ⟨go3, (1 : Int).toNat * 16 + 5, none⟩ = false := hfr3 5; have hf3_6 : w68.frozen? ⟨go3, (1 : Int).toNat * 16 + 6, none⟩ = false := hfr3 6; have hf3_7 : w68.frozen? ⟨go3, (1 : Int).toNat * 16 + 7, none⟩ = false := hfr3 7; have hf3_8 : w68.frozen? ⟨go3, (1 : Int).toNat * 16 + 8, none⟩ = false := hfr3 8; have hf3_9 : w68.frozen? ⟨go3, (1 : Int).toNat * 16 + 9, none⟩ = false := hfr3 9; have hf3_10 : w68.frozen? ⟨go3, (1 : Int).toNat * 16 + 10, none⟩ = false := hfr3 10; have hf3_11 : w68.frozen? ⟨go3, (1 : Int).toNat * 16 + 11, none⟩ = false := hfr3 11; have hf3_12 : w68.frozen? ⟨go3, (1 : Int).toNat * 16 + 12, none⟩ = false := hfr3 12; have hf3_13 : w68.frozen? ⟨go3, (1 : Int).toNat * 16 + 13, none⟩ = false := hfr3 13; have hf3_14 : w68.frozen? ⟨go3, (1 : Int).toNat * 16 + 14, none⟩ = false := hfr3 14; have hf3_15 : w68.frozen? ⟨go3, (1 : Int).toNat * 16 + 15, none⟩ = false := hfr3 15; clear hcl3 hcc3 hfr3 hM3; (try rw [show ((1 : Int)).toNat = 1 from rfl] at hx3_0); (try simp only [Nat.reduceMul, Nat.zero_mul, Nat.zero_add, Nat.reduceAdd] at hx3_0); (try rw [show ((1 : Int)).toNat = 1 from rfl] at hf3_0); (try simp only [Nat.reduceMul, Nat.zero_mul, Nat.zero_add, Nat.reduceAdd] at hf3_0); (try rw [show ((1 : Int)).toNat = 1 from rfl] at hx3_1); (try simp only [Nat.reduceMul, Nat.zero_mul, Nat.zero_add, Nat.reduceAdd] at hx3_1); (try rw [show ((1 : Int)).toNat = 1 from rfl] at hf3_1); (try simp only [Nat.reduceMul, Nat.zero_mul, Nat.zero_add, Nat.reduceAdd] at hf3_1); (try rw [show ((1 : Int)).toNat = 1 from rfl] at hx3_2); (try simp only [Nat.reduceMul, Nat.zero_mul, Nat.zero_add, Nat.reduceAdd] at hx3_2); (try rw [show ((1 : Int)).toNat = 1 from rfl] at hf3_2); (try simp only [Nat.reduceMul, Nat.zero_mul, Nat.zero_add, Nat.reduceAdd] at hf3_2); (try rw [show ((1 : Int)).toNat = 1 from rfl] at hx3_3); (try simp only [Nat.reduceMul, Nat.zero_mul, Nat.zero_add, Nat.reduceAdd] at hx3_3); (try rw [show ((1 : Int)).toNat = 1 from rfl] at hf3_3); (try simp only [Nat.reduceMul, Nat.zero_mul, Nat.zero_add, Nat.reduceAdd] at hf3_3); (try rw [show ((1 : Int)).toNat = 1 from rfl] at hx3_4); (try simp only [Nat.reduceMul, Nat.zero_mul, Nat.zero_add, Nat.reduceAdd] at hx3_4); (try rw [show ((1 : Int)).toNat = 1 from rfl] at hf3_4); (try simp only [Nat.reduceMul, Nat.zero_mul, Nat.zero_add, Nat.reduceAdd] at hf3_4); (try rw [show ((1 : Int)).toNat = 1 from rfl] at hx3_5); (try simp only [Nat.reduceMul, Nat.zero_mul, Nat.zero_add, Nat.reduceAdd] at hx3_5); (try rw [show ((1 : Int)).toNat = 1 from rfl] at hf3_5); (try simp only [Nat.reduceMul, Nat.zero_mul, Nat.zero_add, Nat.reduceAdd] at hf3_5); (try rw [show ((1 : Int)).toNat = 1 from rfl] at hx3_6); (try simp only [Nat.reduceMul, Nat.zero_mul, Nat.zero_add, Nat.reduceAdd] at hx3_6); (try rw [show ((1 : Int)).toNat = 1 from rfl] at hf3_6); (try simp only [Nat.reduceMul, Nat.zero_mul, Nat.zero_add, Nat.reduceAdd] at hf3_6); (try rw [show ((1 : Int)).toNat = 1 from rfl] at hx3_7); (try simp only [Nat.reduceMul, Nat.zero_mul, Nat.zero_add, Nat.reduceAdd] at hx3_7); (try rw [show ((1 : Int)).toNat = 1 from rfl] at hf3_7); (try simp only [Nat.reduceMul, Nat.zero_mul, Nat.zero_add, Nat.reduceAdd] at hf3_7); (try rw [show ((1 : Int)).toNat = 1 from rfl] at hx3_8); (try simp only [Nat.reduceMul, Nat.zero_mul, Nat.zero_add, Nat.reduceAdd] at hx3_8); (try rw [show ((1 : Int)).toNat = 1 from rfl] at hf3_8); (try simp only [Nat.reduceMul, Nat.zero_mul, Nat.zero_add, Nat.reduceAdd] at hf3_8); (try rw [show ((1 : Int)).toNat = 1 from rfl] at hx3_9); (try simp only [Nat.reduceMul, Nat.zero_mul, Nat.zero_add, Nat.reduceAdd] at hx3_9); (try rw [show ((1 : Int)).toNat = 1 from rfl] at hf3_9); (try simp only [Nat.reduceMul, Nat.zero_mul, Nat.zero_add, Nat.reduceAdd] at hf3_9); (try rw [show ((1 : Int)).toNat = 1 from rfl] at hx3_10); (try simp only [Nat.reduceMul, Nat.zero_mul, Nat.zero_add, Nat.reduceAdd] at hx3_10); (try rw [show ((1 : Int)).toNat = 1 from rfl] at hf3_10); (try simp only [Nat.reduceMul, Nat.zero_mul, Nat.zero_add, Nat.reduceAdd] at hf3_10); (try rw [show ((1 : Int)).toNat = 1 from rfl] at hx3_11); (try simp only [Nat.reduceMul, Nat.zero_mul, Nat.zero_add, Nat.reduceAdd] at hx3_11); (try rw [show ((1 : Int)).toNat = 1 from rfl] at hf3_11); (try simp only [Nat.reduceMul, Nat.zero_mul, Nat.zero_add, Nat.reduceAdd] at hf3_11); (try rw [show ((1 : Int)).toNat = 1 from rfl] at hx3_12); (try simp only [Nat.reduceMul, Nat.zero_mul, Nat.zero_add, Nat.reduceAdd] at hx3_12); (try rw [show ((1 : Int)).toNat = 1 from rfl] at hf3_12); (try simp only [Nat.reduceMul, Nat.zero_mul, Nat.zero_add, Nat.reduceAdd] at hf3_12); (try rw [show ((1 : Int)).toNat = 1 from rfl] at hx3_13); (try simp only [Nat.reduceMul, Nat.zero_mul, Nat.zero_add, Nat.reduceAdd] at hx3_13); (try rw [show ((1 : Int)).toNat = 1 from rfl] at hf3_13); (try simp only [Nat.reduceMul, Nat.zero_mul, Nat.zero_add, Nat.reduceAdd] at hf3_13); (try rw [show ((1 : Int)).toNat = 1 from rfl] at hx3_14); (try simp only [Nat.reduceMul, Nat.zero_mul, Nat.zero_add, Nat.reduceAdd] at hx3_14); (try rw [show ((1 : Int)).toNat = 1 from rfl] at hf3_14); (try simp only [Nat.reduceMul, Nat.zero_mul, Nat.zero_add, Nat.reduceAdd] at hf3_14); (try rw [show ((1 : Int)).toNat = 1 from rfl] at hx3_15); (try simp only [Nat.reduceMul, Nat.zero_mul, Nat.zero_add, Nat.reduceAdd] at hx3_15); (try rw [show ((1 : Int)).toNat = 1 from rfl] at hf3_15); (try simp only [Nat.reduceMul, Nat.zero_mul, Nat.zero_add, Nat.reduceAdd] at hf3_15); replace p3 := eq_true p3; replace q3 := eq_true q3; have n_ := Aside0.mk (Kd.N_mono (ok' := (fun k_ => some k_ ≠ (v202 : Value).ownBlock ∧ k_ ≠ gb193 ∧ k_ ≠ gb200)) HO199.out (fun k_ hk => ⟨hk.2, ⟨hk.1.1, hk.1.2⟩⟩)); clear HO199; have HO199 := n_; clear n_; have HX70 := Aside0.mk (show Kd.N k44 44 w68 w.heap.size (fun k_ => some k_ ≠ (v202 : Value).ownBlock ∧ k_ ≠ gb193 ∧ k_ ≠ gb200) (.slice (some ⟨go3, 0, none⟩) y197.length co63) y197 from (by (with_reducible repeat (first | apply Kd.N_alloc | apply Kd.N_drewN | apply Kd.N_drew)); exact HO199.out)); obtain ⟨ce70, hcl70, hM70, hcc70, hfr70⟩ := Kd.N_elem HX70.out z44 (1 : Int) (by omega) (by have h_ : (1 : Int) < ((y197.length : Int) : Int) := odA; first | exact h_ | (have e_ := (Kd.N_reads' HO199.out).1; omega) | simpa using h_); obtain ⟨ua70_1, uc70_1, ua70_4, uc70_4, ua70_8, uc70_8, ua70_9, uc70_9, ua70_13, uc70_13, ua70_14, uc70_14, ua70_15, uc70_15, rfl, ul70_1, ge70_1, ul70_4, ge70_4, ul70_8, ge70_8, ul70_9, ge70_9, ul70_13, ge70_13, ul70_14, ge70_14, ul70_15, ge70_15⟩ := k44_openF hM70; have HP70 := Kd.N_seg HX70.out (1 : Int) (by omega) (by have h_ : (1 : Int) < ((y197.length : Int) : Int) := odA; first | exact h_ | (have e_ := (Kd.N_reads' HO199.out).1; omega) | simpa using h_) (seg := [.int .i64 (-1)]) (j := 6) hcl70 hcc70 (show 7 ≤ 16 from by decide) (x' := (⟨(rd_T44 y197 1).f0, (rd_T44 y197 1).f1, (rd_T44 y197 1).f2, (rd_T44 y197 1).f3, (rd_T44 y197 1).f4, (rd_T44 y197 1).f5, (-1), (rd_T44 y197 1).f7, (rd_T44 y197 1).f8, (rd_T44 y197 1).f9, (rd_T44 y197 1).f10, (rd_T44 y197 1).f11, (rd_T44 y197 1).f12, (rd_T44 y197 1).f13, (rd_T44 y197 1).f14, (rd_T44 y197 1).f15⟩ : S44)) (k44_mkF _ _ (⟨(rd_T44 y197 1).f0, (rd_T44 y197 1).f1, (rd_T44 y197 1).f2, (rd_T44 y197 1).f3, (rd_T44 y197 1).f4, (rd_T44 y197 1).f5, (-1), (rd_T44 y197 1).f7, (rd_T44 y197 1).f8, (rd_T44 y197 1).f9, (rd_T44 y197 1).f10, (rd_T44 y197 1).f11, (rd_T44 y197 1).f12, (rd_T44 y197 1).f13, (rd_T44 y197 1).f14, (rd_T44 y197 1).f15⟩ : S44) ul70_1 ge70_1 ul70_4 ge70_4 ul70_8 ge70_8 ul70_9 ge70_9 ul70_13 ge70_13 ul70_14 ge70_14 ul70_15 ge70_15) (fun _ hk => hk); have hx70_6 := hcc70 6 _ rfl; (try simp only [show (k44).sz = 16 from rfl, Nat.mul_one, Nat.add_zero] at hx70_6); (try rw [show ((1 : Int)).toNat = 1 from rfl] at hx70_6); (try simp only [Nat.reduceMul, Nat.zero_mul, Nat.zero_add, Nat.reduceAdd] at hx70_6); have hf70_6 := hfr70 6; (try simp only [show (k44).sz = 16 from rfl, Nat.mul_one, Nat.add_zero] at hf70_6); (try rw [show ((1 : Int)).toNat = 1 from rfl] at hf70_6); (try simp only [Nat.reduceMul, Nat.zero_mul, Nat.zero_add, Nat.reduceAdd] at hf70_6); clear hcl70 hcc70 hfr70 hM70) | ((with_reducible refine gate_store (t := 3) (p := 25) rfl ?_); refine store_event (t := 3) (p := 25) (v := ?vo_w71) (w1 := (w68.setCell ⟨go3, 22, none⟩ (.int .i64 (-1)))) ?hg ?ho ?hn ?hr ?_; (case ho => rfl); (case hg => rfl); (case hn => rfl); (case hr => first | (go_simp; done) | (go_simp; rfl)); intro w71 hw; have hg : w68.grownBy w71 (some go3) := (by rw [hw]; exact HP70.2); have hp_ : Kd.N k44 44 w71 w.heap.size (fun k_ => some k_ ≠ (v202 : Value).ownBlock ∧ k_ ≠ gb193 ∧ k_ ≠ gb200) (.slice (some ⟨go3, 0, none⟩) y197.length co63) y206 := (by rw [hw, Ny206.out]; exact HP70.1); clear HP70; have n0_ := Aside0.mk (blk_grown (g := gb193) (o := .cells #[.int .i64 2, .int .i64 0, .int .i64 10, .int .i64 5, .int .i64 3, .int .i64 20] 27 (0, 0)) (blk_move BK193.out) hg (Kd.N_ne HO199.out BK193.out (by decide))); have n1_ := Aside0.mk (hp_); have n2_ := Aside0.mk (blk_grown (g := gb200) (o := .cells #[.slice none 0 0, .slice (some ⟨go3, 0, none⟩) y197.length co63] 25 (0, 0)) (blk_move BK200.out) hg (Kd.N_ne HO199.out BK200.out (by decide))); have n3_ := Aside0.mk (Kd.R_over' (v := (.slice (some ⟨go3, 0, none⟩) y197.length co63)) (by (with_reducible repeat (first | apply Kd.R_alloc | apply Kd.R_drewN | apply Kd.R_drew)); exact HO203.out) (Kd.N_typed HO199.out) (by decide) hg); have n4_ := Aside0.mk ((by rw [hw]; exact below_set (HB.out) GB3.out : Below w.heap.size w w71)); clear BK193; clear HO199; clear BK200; clear HO203; clear HB; have BK193 := n0_; have HO199 := n1_; have BK200 := n2_; have HO203 := n3_; have HB := n4_; clear n0_ n1_ n2_ n3_ n4_; clear hg hw hp_; have hz72 := blk2 BK200.out; have hz73 := blk6 BK193.out) | ((with_reducible refine gate_callee (f := 9) rfl ?_); refine goesL_ (some 29) rfl rfl Try.func9 (by kernel_rfl) rfl #[.agg #[.slice none 0 0, .slice (some ⟨go3, 0, none⟩) y206.length co63], .agg #[.int .i64 2, .int .i64 0, .int .i64 10, .int .i64 5, .int .i64 3, .int .i64 20]] rfl (by (try simp only [List.map_toArray, List.map_cons, List.map_nil]); first | done | (rw [show y206.length = y197.length from (Kd.N_reads' HO199.out).1.symm] <;> rfl) | rfl | (simp only [List.length_drop, List.length_take]; rfl)) ?_; (refine (bounds_Analyze.calls k _ _ ([] : List (S95)) _ _ y206 2 0 10 5 3 20 t207 t210 t211 _ ?side1 ?side2 ?side3 ?side4 A4.out).mono ?_); (case side1 => exact Kd.C_nil _ _); (case side2 => exact Nat.le_refl _); (case side3 => repeat (first | exact (Kd.N_reads' HO199.out).2.2 | (with_reducible refine Kd.C_alloc ?_ _) | (with_reducible refine Kd.C_drewN ?_ _) | (with_reducible refine Kd.C_drew ?_))); (case side4 => rw [show y206.length = y197.length from (Kd.N_reads' HO199.out).1.symm]; exact (Kd.N_reads' HO199.out).2.1); rintro e w74 ⟨v208, rfl, ho0, hb⟩; refine ⟨_, rfl, ?_⟩; have HO209 := Aside0.mk (Kd.R_lower (Kd.R_new' ho0 (Kd.R_lt (by (with_reducible repeat (first | apply Kd.R_alloc | apply Kd.R_drewN | apply Kd.R_drew)); exact HO203.out))) below_sizeA); replace HO199 := Aside0.mk (Kd.N_elder' (by (with_reducible repeat (first | apply Kd.N_alloc | apply Kd.N_drewN | apply Kd.N_drew)); exact HO199.out) (Kd.R_base ho0) hb); replace HO203 := Aside0.mk (Kd.R_elder' (by (with_reducible repeat (first | apply Kd.R_alloc | apply Kd.R_drewN | apply Kd.R_drew)); exact HO203.out) (Kd.R_base ho0) hb); replace BK193 := Aside0.mk (blk_keepA BK193.out hb); replace BK200 := Aside0.mk (blk_keepA BK200.out hb); replace HB := Aside0.mk (below_stepA hb); (try clear hb); (try clear ho0)) | ((with_reducible refine gate_dst (N := 43) rfl ?_); (try (refine gate_guard (by rfl) ?_; dsimp only)); refine Kd.R_lit k37 _ 37 ?hg (N := 43) ?hd (xs := ([(⟨0, 0, 6, 0⟩ : S37), (⟨59, 59, 360, 474⟩ : S37)] : List (S37))) (inner := [.int .i64 0, .int .i64 0, .int .i64 6, .int .i64 0, .int .i64 59, .int .i64 59, .int .i64 360, .int .i64 474]) (ok := fun _ => True) (okp := fun _ => True) ?hr ?hp (fun _ hk => hk) trivial (Below.refl _ _) (Nat.le_refl _) (by simp) ?_; (case hd => rfl); (case hg => rfl); (case hr => first | (go_simp; done) | (go_simp; rfl)); (case hp => exact (Reps.c4 (show Kd.M k37 _ _ _ (⟨0, 0, 6, 0⟩ : S37) [.int .i64 0, .int .i64 0, .int .i64 6, .int .i64 0] from (k37_mkM _ _ _ (⟨0, 0, 6, 0⟩ : S37) )) (Reps.c4 (show Kd.M k37 _ _ _ (⟨59, 59, 360, 474⟩ : S37) [.int .i64 59, .int .i64 59, .int .i64 360, .int .i64 474] from (k37_mkM _ _ _ (⟨59, 59, 360, 474⟩ : S37) )) (Reps.none _ _)))); intro v213 w75 ho76 hb hg_ hnew_; clear hg_ hnew_; (first | rw [← Ny212.out] at ho76 | (simp only [Int.reduceToNat] at ho76; rw [← Ny212.out] at ho76)); have HO214 := Aside0.mk (Kd.R_lower (Kd.R_new' (Kd.R_new' ho76 (Kd.R_lt (by (with_reducible repeat (first | apply Kd.R_alloc | apply Kd.R_drewN | apply Kd.R_drew)); exact HO203.out))) (Kd.R_lt (by (with_reducible repeat (first | apply Kd.R_alloc | apply Kd.R_drewN | apply Kd.R_drew)); exact HO209.out))) below_sizeA); replace HO199 := Aside0.mk (Kd.N_elder' (by (with_reducible repeat (first | apply Kd.N_alloc | apply Kd.N_drewN | apply Kd.N_drew)); exact HO199.out) (Kd.R_base ho76) hb); replace HO203 := Aside0.mk (Kd.R_elder' (by (with_reducible repeat (first | apply Kd.R_alloc | apply Kd.R_drewN | apply Kd.R_drew)); exact HO203.out) (Kd.R_base ho76) hb); replace HO209 := Aside0.mk (Kd.R_elder' (by (with_reducible repeat (first | apply Kd.R_alloc | apply Kd.R_drewN | apply Kd.R_drew)); exact HO209.out) (Kd.R_base ho76) hb); replace BK193 := Aside0.mk (blk_keepA BK193.out hb); replace BK200 := Aside0.mk (blk_keepA BK200.out hb); replace HB := Aside0.mk (below_stepA hb); clear hb ho76; obtain ⟨Ao77, co77, eo77⟩ := Kd.R_slice HO203.out; subst eo77; obtain ⟨Ao78, co78, eo78⟩ := Kd.R_slice HO214.out; subst eo78) | (go_at_call 11; (with_reducible refine (errataref20_Same.calls k _ _ t201 _ _ y212 false _ ?side1 ?side2 ?side3 ?side4 A7.out).mono ?_); (case side1 => repeat (first | exact (Kd.R_reads' HO203.out).2.2 | (with_reducible refine Kd.C_alloc ?_ _) | (with_reducible refine Kd.C_drewN ?_ _) | (with_reducible refine Kd.C_drew ?_))); (case side2 => exact (Kd.R_reads' HO203.out).2.1); (case side3 => repeat (first | exact (Kd.R_reads' HO214.out).2.2 | (with_reducible refine Kd.C_alloc ?_ _) | (with_reducible refine Kd.C_drewN ?_ _) | (with_reducible refine Kd.C_drew ?_))); (case side4 => exact (Kd.R_reads' HO214.out).2.1); rintro e w' ⟨rfl, ⟨nd, rfl⟩⟩))
    go_ret
    exact ⟨by first | rfl | (simp [errW_none, errW_some] <;> rfl) | (simp [*, errW_none, errW_some] <;> rfl), belowA⟩
  ·
   rw [if_neg c6] at H
   have c6b0 : (t204 == (-1)) = false := beq_eq_false_iff_ne.mpr c6
   have c6b1 : (t204 != (-1)) = true := bne_iff_ne.mpr c6
   obtain rfl := Option.some.inj H
   go_enter Try.func7, Try.ntmps7
   go_wp2_with (first | ((with_reducible refine gate_dst (N := 1) rfl ?_); (try (refine gate_guard (by rfl) ?_; dsimp only)); refine box_event ?hg (N := 1) ?hd (cs := #[.int .i64 0, .int .i64 0, .int .i64 0, .int .i64 0, .int .i64 0, .int .i64 0]) (t := 27) ?hr ?_; (case hd => rfl); (case hg => rfl); (case hr => first | (go_simp; done) | (go_simp; rfl)); intro gb193 hg w79 hbox hb; have BK193 := Aside0.mk (hbox); have GW193 := Aside0.mk ((by rw [hg]; exact below_sizeA : w.heap.size ≤ gb193)); have GE193 := GW193; replace HB := Aside0.mk (below_stepA hb); clear hb hbox hg; have hz80 := blk6 BK193.out) | ((with_reducible refine gate_dst (N := 11) rfl ?_); (try (refine gate_guard (by rfl) ?_; dsimp only)); refine Kd.R_lit (Kd.int .i64) _ 3 ?hg (N := 11) ?hd (xs := ([0] : List Int)) (inner := [.int .i64 0]) (ok := fun _ => True) (okp := fun _ => True) ?hr ?hp (fun _ hk => hk) trivial (Below.refl _ _) (Nat.le_refl _) (by simp) ?_; (case hd => rfl); (case hg => rfl); (case hr => first | (go_simp; done) | (go_simp; rfl)); (case hp => exact (Reps.one (show Kd.M (Kd.int .i64) _ _ _ 0 [.int .i64 0] from rfl) (Reps.none _ _))); intro v195 w81 ho82 hb hg_ hnew_; clear hg_ hnew_; (first | rw [← Ny194.out] at ho82 | (simp only [Int.reduceToNat] at ho82; rw [← Ny194.out] at ho82)); have HO196 := Aside0.mk (Kd.R_lower ho82 below_sizeA); replace BK193 := Aside0.mk (blk_below (g := gb193) (o := .cells #[.int .i64 2, .int .i64 0, .int .i64 10, .int .i64 5, .int .i64 3, .int .i64 20] 27 (0, 0)) (blk_move BK193.out) hb); replace HB := Aside0.mk (below_stepA hb); clear hb ho82; obtain ⟨Ao83, co83, eo83⟩ := Kd.R_slice HO196.out; subst eo83) | ((with_reducible refine gate_dst (N := 13) rfl ?_); (try (refine gate_guard (by rfl) ?_; dsimp only)); refine Kd.N_lit k44 _ 44 ?hg (N' := 13) ?hd (xs := ([(⟨0, ([] : List Int), (⟨#[]⟩ : ByteArray), 0, ([] : List (S93)), 0, 0, 0, ([] : List Int), ([] : List Int), 0, 0, 0, ([] : List (S97)), ([] : List (S99)), ([] : List (S50))⟩ : S44), (⟨4, y194, (⟨#[]⟩ : ByteArray), 0, ([] : List (S93)), 0, 60, 0, ([] : List Int), ([] : List Int), 0, 0, 0, ([] : List (S97)), ([] : List (S99)), ([] : List (S50))⟩ : S44)] : List (S44))) (inner := [.int .i64 0, .slice none 0 0, .string (⟨#[]⟩ : ByteArray), .int .i64 0, .slice none 0 0, .int .i64 0, .int .i64 0, .int .i64 0, .slice none 0 0, .slice none 0 0, .int .i64 0, .int .i64 0, .int .i64 0, .slice none 0 0, .slice none 0 0, .slice none 0 0, .int .i64 4, .slice Ao83 y194.length co83, .string (⟨#[]⟩ : ByteArray), .int .i64 0, .slice none 0 0, .int .i64 0, .int .i64 60, .int .i64 0, .slice none 0 0, .slice none 0 0, .int .i64 0, .int .i64 0, .int .i64 0, .slice none 0 0, .slice none 0 0, .slice none 0 0]) (ok := (fun k_ => k_ ≠ gb193)) (okp := (fun k_ => k_ ≠ gb193)) ?hr ?hp (fun _ hk => hk) ((show ∀ k_, w81.heap.size ≤ k_ → (fun k_ => k_ ≠ gb193) k_ from fun k_ hk => Kd.freshB (g := gb193) (o := .cells #[.int .i64 2, .int .i64 0, .int .i64 10, .int .i64 5, .int .i64 3, .int .i64 20] 27 (0, 0)) (blk_move BK193.out) k_ hk) _ (Nat.le_refl _)) (Below.refl _ _) (Nat.le_refl _) (by simp) ?_; (case hd => rfl); (case hg => rfl); (case hr => first | (go_simp; done) | (go_simp; rfl)); (case hp => exact (Reps.front (show Kd.FK k44 _ _ (⟨0, ([] : List Int), (⟨#[]⟩ : ByteArray), 0, ([] : List (S93)), 0, 0, 0, ([] : List Int), ([] : List Int), 0, 0, 0, ([] : List (S97)), ([] : List (S99)), ([] : List (S50))⟩ : S44) [.int .i64 0, .slice none 0 0, .string (⟨#[]⟩ : ByteArray), .int .i64 0, .slice none 0 0, .int .i64 0, .int .i64 0, .int .i64 0, .slice none 0 0, .slice none 0 0, .int .i64 0, .int .i64 0, .int .i64 0, .slice none 0 0, .slice none 0 0, .slice none 0 0] from (k44_mkF _ _ (⟨0, ([] : List Int), (⟨#[]⟩ : ByteArray), 0, ([] : List (S93)), 0, 0, 0, ([] : List Int), ([] : List Int), 0, 0, 0, ([] : List (S97)), ([] : List (S99)), ([] : List (S50))⟩ : S44) (Nat.le_refl _) (Kd.F_nil _ _ _) (Nat.le_refl _) (Kd.F_nil _ _ _) (Nat.le_refl _) (Kd.F_nil _ _ _) (Nat.le_refl _) (Kd.F_nil _ _ _) (Nat.le_refl _) (Kd.F_nil _ _ _) (Nat.le_refl _) (Kd.F_nil _ _ _) (Nat.le_refl _) (Kd.F_nil _ _ _))) rfl (Reps.front (show Kd.FK k44 _ _ (⟨4, y194, (⟨#[]⟩ : ByteArray), 0, ([] : List (S93)), 0, 60, 0, ([] : List Int), ([] : List Int), 0, 0, 0, ([] : List (S97)), ([] : List (S99)), ([] : List (S50))⟩ : S44) [.int .i64 4, .slice Ao83 y194.length co83, .string (⟨#[]⟩ : ByteArray), .int .i64 0, .slice none 0 0, .int .i64 0, .int .i64 60, .int .i64 0, .slice none 0 0, .slice none 0 0, .int .i64 0, .int .i64 0, .int .i64 0, .slice none 0 0, .slice none 0 0, .slice none 0 0] from (k44_mkF _ _ (⟨4, y194, (⟨#[]⟩ : ByteArray), 0, ([] : List (S93)), 0, 60, 0, ([] : List Int), ([] : List Int), 0, 0, 0, ([] : List (S97)), ([] : List (S99)), ([] : List (S50))⟩ : S44) (Kd.R_reads' (Kd.R_mono (ok' := (fun k_ => k_ ≠ gb193)) (Kd.R_types (HO196.out) BK193.out (by decide)) (fun k_ hk => hk.2))).2.1 (Kd.R_F (Kd.R_mono (ok' := (fun k_ => k_ ≠ gb193)) (Kd.R_types (HO196.out) BK193.out (by decide)) (fun k_ hk => hk.2))) (Nat.le_refl _) (Kd.F_nil _ _ _) (Nat.le_refl _) (Kd.F_nil _ _ _) (Nat.le_refl _) (Kd.F_nil _ _ _) (Nat.le_refl _) (Kd.F_nil _ _ _) (Nat.le_refl _) (Kd.F_nil _ _ _) (Nat.le_refl _) (Kd.F_nil _ _ _))) rfl (Reps.none _ _) rfl) rfl)); intro v198 w84 ho85 hb hg_ hnew_; clear hg_ hnew_; (first | rw [← Ny197.out] at ho85 | (simp only [Int.reduceToNat] at ho85; rw [← Ny197.out] at ho85)); have n0_ := Aside0.mk (Kd.N_lower ho85 below_sizeA); have n1_ := Aside0.mk (blk_keepA BK193.out hb); have n2_ := Aside0.mk (below_stepA hb); clear BK193; clear HB; clear HO196; have HO199 := n0_; have BK193 := n1_; have HB := n2_; clear n0_ n1_ n2_; clear hb ho85; obtain ⟨Ao86, co86, eo86⟩ := Kd.N_slice HO199.out; subst eo86) | ((with_reducible refine gate_dst (N := 2) rfl ?_); (try (refine gate_guard (by rfl) ?_; dsimp only)); refine box_event ?hg (N := 2) ?hd (cs := #[.slice none 0 0, .slice none 0 0]) (t := 25) ?hr ?_; (case hd => rfl); (case hg => rfl); (case hr => first | (go_simp; done) | (go_simp; rfl)); intro gb200 hg w87 hbox hb; have BK200 := Aside0.mk (hbox); have GW200 := Aside0.mk ((by rw [hg]; exact below_sizeA : w.heap.size ≤ gb200)); have GE200 := GW200; have NB193_200 := Aside0.mk ((by rw [hg]; exact Nat.ne_of_lt (blk_ltKA BK193.out) : gb193 ≠ gb200)); have NB200_193 := Aside0.mk NB193_200.out.symm; replace HO199 := Aside0.mk (Kd.N_below (Kd.N_elderB (by (with_reducible repeat (first | apply Kd.N_alloc | apply Kd.N_drewN | apply Kd.N_drew)); exact HO199.out) gb200 (Nat.le_of_eq hg.symm)) hb); replace BK193 := Aside0.mk (blk_keepA BK193.out hb); replace HB := Aside0.mk (below_stepA hb); clear hb hbox hg; have hnb88 := NB200_193.out; have hnc88 := NB193_200.out; have hz89 := blk2 BK200.out; have hz90 := blk6 BK193.out) | ((with_reducible refine gate_callee (f := 9) rfl ?_); refine goesL_ (some 18) rfl rfl Try.func9 (by kernel_rfl) rfl #[.agg #[.slice none 0 0, .slice Ao86 y197.length co86], .agg #[.int .i64 2, .int .i64 0, .int .i64 10, .int .i64 5, .int .i64 3, .int .i64 20]] rfl mapA ?_; (refine (bounds_Analyze.calls k _ _ ([] : List (S95)) _ _ y197 2 0 10 5 3 20 t201 t204 t205 _ ?side1 ?side2 ?side3 ?side4 A1.out).mono ?_); (case side1 => exact Kd.C_nil _ _); (case side2 => exact Nat.le_refl _); (case side3 => refine (Kd.N_reads' (e := 44) (base := w.heap.size) (ok := fun k_ => (k_ ≠ gb193 ∧ k_ ≠ gb200)) (n := y197.length) (c := co86) ?_).2.2; exact (by (with_reducible repeat (first | apply Kd.N_alloc | apply Kd.N_drewN | apply Kd.N_drew)); exact (Kd.N_mono (Kd.N_far (p := ⟨gb200, 1, none⟩) (Kd.N_far (p := ⟨gb200, 0, none⟩) (Kd.N_mono HO199.out (fun k_ hk => (⟨hk, hk.2⟩ : _ ∧ k_ ≠ gb200))) (fun _ hk => hk.2) (.slice none 0 0)) (fun _ hk => hk.2) (.slice Ao86 y197.length co86)) (fun _ h_ => h_.1)))); (case side4 => exact (Kd.N_reads' HO199.out).2.1); rintro e w91 ⟨v202, rfl, ho0, hb⟩; refine ⟨_, rfl, ?_⟩; have HO203 := Aside0.mk (Kd.R_lower ho0 below_sizeA); replace HO199 := Aside0.mk (Kd.N_elder' (by (with_reducible repeat (first | apply Kd.N_alloc | apply Kd.N_drewN | apply Kd.N_drew)); exact (Kd.N_mono (Kd.N_far (p := ⟨gb200, 1, none⟩) (Kd.N_far (p := ⟨gb200, 0, none⟩) (Kd.N_mono HO199.out (fun k_ hk => (⟨hk, hk.2⟩ : _ ∧ k_ ≠ gb200))) (fun _ hk => hk.2) (.slice none 0 0)) (fun _ hk => hk.2) (.slice Ao86 y197.length co86)) (fun _ h_ => h_.1))) (Kd.R_base ho0) hb); replace BK193 := Aside0.mk (blk_keepA BK193.out hb); replace BK200 := Aside0.mk (blk_below (g := gb200) (o := .cells #[.slice none 0 0, .slice Ao86 y197.length co86] 25 (0, 0)) (blk_move BK200.out) hb); replace HB := Aside0.mk (below_stepA hb); (try clear hb); (try clear ho0); have hz92 := blk2 BK200.out; have p3 : 0 ≤ (1 : Int) := (by omega); have q3 : (1 : Int) < ((y197.length : Int) : Int) := odA; have qi3 : (1 < y197.length) = True := eq_true (by omega); obtain ⟨go3, co3, eo3, gb3, gl3, cl3, HG3⟩ := Kd.N_form HO199.out (by omega); (first | cases eo3 | (injection eo3 with ea_ en_ ec_; (first | subst ea_ | (injection ea_ with ea_; subst ea_)); subst ec_; clear en_)); have GB3 := Aside0.mk gb3; have GG3 := Aside0.mk HG3; clear gb3 gl3 HG3; obtain ⟨ce3, hcl3, hM3, hcc3, hfr3⟩ := Kd.N_elem HO199.out z44 (1 : Int) p3 q3; obtain ⟨ua3_1, uc3_1, ua3_4, uc3_4, ua3_8, uc3_8, ua3_9, uc3_9, ua3_13, uc3_13, ua3_14, uc3_14, ua3_15, uc3_15, rfl, ul3_1, ge3_1, ul3_4, ge3_4, ul3_8, ge3_8, ul3_9, ge3_9, ul3_13, ge3_13, ul3_14, ge3_14, ul3_15, ge3_15⟩ := k44_openF hM3; have hx3_0 : w91.cell? ⟨go3, (1 : Int).toNat * 16, none⟩ = some (.int .i64 ((rd_T44 y197 1).f0)) := hcc3 0 _ rfl; have hx3_1 : w91.cell? ⟨go3, (1 : Int).toNat * 16 + 1, none⟩ = some (.slice ua3_1 ((rd_T44 y197 1).f1).length uc3_1) := hcc3 1 _ rfl; have hx3_2 : w91.cell? ⟨go3, (1 : Int).toNat * 16 + 2, none⟩ = some (.string ((rd_T44 y197 1).f2)) := hcc3 2 _ rfl; have hx3_3 : w91.cell? ⟨go3, (1 : Int).toNat * 16 + 3, none⟩ = some (.int .i64 ((rd_T44 y197 1).f3)) := hcc3 3 _ rfl; have hx3_4 : w91.cell? ⟨go3, (1 : Int).toNat * 16 + 4, none⟩ = some (.slice ua3_4 ((rd_T44 y197 1).f4).length uc3_4) := hcc3 4 _ rfl; have hx3_5 : w91.cell? ⟨go3, (1 : Int).toNat * 16 + 5, none⟩ = some (.int .i64 ((rd_T44 y197 1).f5)) := hcc3 5 _ rfl; have hx3_6 : w91.cell? ⟨go3, (1 : Int).toNat * 16 + 6, none⟩ = some (.int .i64 ((rd_T44 y197 1).f6)) := hcc3 6 _ rfl; have hx3_7 : w91.cell? ⟨go3, (1 : Int).toNat * 16 + 7, none⟩ = some (.int .i64 ((rd_T44 y197 1).f7)) := hcc3 7 _ rfl; have hx3_8 : w91.cell? ⟨go3, (1 : Int).toNat * 16 + 8, none⟩ = some (.slice ua3_8 ((rd_T44 y197 1).f8).length uc3_8) := hcc3 8 _ rfl; have hx3_9 : w91.cell? ⟨go3, (1 : Int).toNat * 16 + 9, none⟩ = some (.slice ua3_9 ((rd_T44 y197 1).f9).length uc3_9) := hcc3 9 _ rfl; have hx3_10 : w91.cell? ⟨go3, (1 : Int).toNat * 16 + 10, none⟩ = some (.int .i64 ((rd_T44 y197 1).f10)) := hcc3 10 _ rfl; have hx3_11 : w91.cell? ⟨go3, (1 : Int).toNat * 16 + 11, none⟩ = some (.int .i64 ((rd_T44 y197 1).f11)) := hcc3 11 _ rfl; have hx3_12 : w91.cell? ⟨go3, (1 : Int).toNat * 16 + 12, none⟩ = some (.int .i64 ((rd_T44 y197 1).f12)) := hcc3 12 _ rfl; have hx3_13 : w91.cell? ⟨go3, (1 : Int).toNat * 16 + 13, none⟩ = some (.slice ua3_13 ((rd_T44 y197 1).f13).length uc3_13) := hcc3 13 _ rfl; have hx3_14 : w91.cell? ⟨go3, (1 : Int).toNat * 16 + 14, none⟩ = some (.slice ua3_14 ((rd_T44 y197 1).f14).length uc3_14) := hcc3 14 _ rfl; have hx3_15 : w91.cell? ⟨go3, (1 : Int).toNat * 16 + 15, none⟩ = some (.slice ua3_15 ((rd_T44 y197 1).f15).length uc3_15) := hcc3 15 _ rfl; have hf3_0 : w91.frozen? ⟨go3, (1 : Int).toNat * 16, none⟩ = false := hfr3 0; have hf3_1 : w91.frozen? ⟨go3, (1 : Int).toNat * 16 + 1, none⟩ = false := hfr3 1; have hf3_2 : w91.frozen? ⟨go3, (1 : Int).toNat * 16 + 2, none⟩ = false := hfr3 2; have hf3_3 : w91.frozen? ⟨go3, (1 : Int).toNat * 16 + 3, none⟩ = false := hfr3 3; have hf3_4 : w91.frozen? ⟨go3, (1 : Int).toNat * 16 + 4, none⟩ = false := hfr3 4; have hf3_5 : w91.frozen? ⟨go3, (1 : Int).toNat * 16 + 5, none⟩ = false := hfr3 5; have hf3_6 : w91.frozen? ⟨go3, (1 : Int).toNat * 16 + 6, none⟩ = false := hfr3 6; have hf3_7 : w91.frozen? ⟨go3, (1 : Int).toNat * 16 + 7, none⟩ = false := hfr3 7; have hf3_8 : w91.frozen? ⟨go3, (1 : Int).toNat * 16 + 8, none⟩ = false := hfr3 8; have hf3_9 : w91.frozen? ⟨go3, (1 : Int).toNat * 16 + 9, none⟩ = false := hfr3 9; have hf3_10 : w91.frozen? ⟨go3, (1 : Int).toNat * 16 + 10, none⟩ = false := hfr3 10; have hf3_11 : w91.frozen? ⟨go3, (1 : Int).toNat * 16 + 11, none⟩ = false := hfr3 11; have hf3_12 : w91.frozen? ⟨go3, (1 : Int).toNat * 16 + 12, none⟩ = false := hfr3 12; have hf3_13 : w91.frozen? ⟨go3, (1 : Int).toNat * 16 + 13, none⟩ = false := hfr3 13; have hf3_14 : w91.frozen? ⟨go3, (1 : Int).toNat * 16 + 14, none⟩ = false := hfr3 14; have hf3_15 : w91.frozen? ⟨go3, (1 : Int).toNat * 16 + 15, none⟩ = false := hfr3 15; clear hcl3 hcc3 hfr3 hM3; (try rw [show ((1 : Int)).toNat = 1 from rfl] at hx3_0); (try simp only [Nat.reduceMul, Nat.zero_mul, Nat.zero_add, Nat.reduceAdd] at hx3_0); (try rw [show ((1 : Int)).toNat = 1 from rfl] at hf3_0); (try simp only [Nat.reduceMul, Nat.zero_mul, Nat.zero_add, Nat.reduceAdd] at hf3_0); (try rw [show ((1 : Int)).toNat = 1 from rfl] at hx3_1); (try simp only [Nat.reduceMul, Nat.zero_mul, Nat.zero_add, Nat.reduceAdd] at hx3_1); (try rw [show ((1 : Int)).toNat = 1 from rfl] at hf3_1); (try simp only [Nat.reduceMul, Nat.zero_mul, Nat.zero_add, Nat.reduceAdd] at hf3_1); (try rw [show ((1 : Int)).toNat = 1 from rfl] at hx3_2); (try simp only [Nat.reduceMul, Nat.zero_mul, Nat.zero_add, Nat.reduceAdd] at hx3_2); (try rw [show ((1 : Int)).toNat = 1 from rfl] at hf3_2); (try simp only [Nat.reduceMul, Nat.zero_mul, Nat.zero_add, Nat.reduceAdd] at hf3_2); (try rw [show ((1 : Int)).toNat = 1 from rfl] at hx3_3); (try simp only [Nat.reduceMul, Nat.zero_mul, Nat.zero_add, Nat.reduceAdd] at hx3_3); (try rw [show ((1 : Int)).toNat = 1 from rfl] at hf3_3); (try simp only [Nat.reduceMul, Nat.zero_mul, Nat.zero_add, Nat.reduceAdd] at hf3_3); (try rw [show ((1 : Int)).toNat = 1 from rfl] at hx3_4); (try simp only [Nat.reduceMul, Nat.zero_mul, Nat.zero_add, Nat.reduceAdd] at hx3_4); (try rw [show ((1 : Int)).toNat = 1 from rfl] at hf3_4); (try simp only [Nat.reduceMul, Nat.zero_mul, Nat.zero_add, Nat.reduceAdd] at hf3_4); (try rw [show ((1 : Int)).toNat = 1 from rfl] at hx3_5); (try simp only [Nat.reduceMul, Nat.zero_mul, Nat.zero_add, Nat.reduceAdd] at hx3_5); (try rw [show ((1 : Int)).toNat = 1 from rfl] at hf3_5); (try simp only [Nat.reduceMul, Nat.zero_mul, Nat.zero_add, Nat.reduceAdd] at hf3_5); (try rw [show ((1 : Int)).toNat = 1 from rfl] at hx3_6); (try simp only [Nat.reduceMul, Nat.zero_mul, Nat.zero_add, Nat.reduceAdd] at hx3_6); (try rw [show ((1 : Int)).toNat = 1 from rfl] at hf3_6); (try simp only [Nat.reduceMul, Nat.zero_mul, Nat.zero_add, Nat.reduceAdd] at hf3_6); (try rw [show ((1 : Int)).toNat = 1 from rfl] at hx3_7); (try simp only [Nat.reduceMul, Nat.zero_mul, Nat.zero_add, Nat.reduceAdd] at hx3_7); (try rw [show ((1 : Int)).toNat = 1 from rfl] at hf3_7); (try simp only [Nat.reduceMul, Nat.zero_mul, Nat.zero_add, Nat.reduceAdd] at hf3_7); (try rw [show ((1 : Int)).toNat = 1 from rfl] at hx3_8); (try simp only [Nat.reduceMul, Nat.zero_mul, Nat.zero_add, Nat.reduceAdd] at hx3_8); (try rw [show ((1 : Int)).toNat = 1 from rfl] at hf3_8); (try simp only [Nat.reduceMul, Nat.zero_mul, Nat.zero_add, Nat.reduceAdd] at hf3_8); (try rw [show ((1 : Int)).toNat = 1 from rfl] at hx3_9); (try simp only [Nat.reduceMul, Nat.zero_mul, Nat.zero_add, Nat.reduceAdd] at hx3_9); (try rw [show ((1 : Int)).toNat = 1 from rfl] at hf3_9); (try simp only [Nat.reduceMul, Nat.zero_mul, Nat.zero_add, Nat.reduceAdd] at hf3_9); (try rw [show ((1 : Int)).toNat = 1 from rfl] at hx3_10); (try simp only [Nat.reduceMul, Nat.zero_mul, Nat.zero_add, Nat.reduceAdd] at hx3_10); (try rw [show ((1 : Int)).toNat = 1 from rfl] at hf3_10); (try simp only [Nat.reduceMul, Nat.zero_mul, Nat.zero_add, Nat.reduceAdd] at hf3_10); (try rw [show ((1 : Int)).toNat = 1 from rfl] at hx3_11); (try simp only [Nat.reduceMul, Nat.zero_mul, Nat.zero_add, Nat.reduceAdd] at hx3_11); (try rw [show ((1 : Int)).toNat = 1 from rfl] at hf3_11); (try simp only [Nat.reduceMul, Nat.zero_mul, Nat.zero_add, Nat.reduceAdd] at hf3_11); (try rw [show ((1 : Int)).toNat = 1 from rfl] at hx3_12); (try simp only [Nat.reduceMul, Nat.zero_mul, Nat.zero_add, Nat.reduceAdd] at hx3_12); (try rw [show ((1 : Int)).toNat = 1 from rfl] at hf3_12); (try simp only [Nat.reduceMul, Nat.zero_mul, Nat.zero_add, Nat.reduceAdd] at hf3_12); (try rw [show ((1 : Int)).toNat = 1 from rfl] at hx3_13); (try simp only [Nat.reduceMul, Nat.zero_mul, Nat.zero_add, Nat.reduceAdd] at hx3_13); (try rw [show ((1 : Int)).toNat = 1 from rfl] at hf3_13); (try simp only [Nat.reduceMul, Nat.zero_mul, Nat.zero_add, Nat.reduceAdd] at hf3_13); (try rw [show ((1 : Int)).toNat = 1 from rfl] at hx3_14); (try simp only [Nat.reduceMul, Nat.zero_mul, Nat.zero_add, Nat.reduceAdd] at hx3_14); (try rw [show ((1 : Int)).toNat = 1 from rfl] at hf3_14); (try simp only [Nat.reduceMul, Nat.zero_mul, Nat.zero_add, Nat.reduceAdd] at hf3_14); (try rw [show ((1 : Int)).toNat = 1 from rfl] at hx3_15); (try simp only [Nat.reduceMul, Nat.zero_mul, Nat.zero_add, Nat.reduceAdd] at hx3_15); (try rw [show ((1 : Int)).toNat = 1 from rfl] at hf3_15); (try simp only [Nat.reduceMul, Nat.zero_mul, Nat.zero_add, Nat.reduceAdd] at hf3_15); replace p3 := eq_true p3; replace q3 := eq_true q3; have n_ := Aside0.mk (Kd.N_mono (ok' := (fun k_ => some k_ ≠ (v202 : Value).ownBlock ∧ k_ ≠ gb193 ∧ k_ ≠ gb200)) HO199.out (fun k_ hk => ⟨hk.2, ⟨hk.1.1, hk.1.2⟩⟩)); clear HO199; have HO199 := n_; clear n_; have HX93 := Aside0.mk (show Kd.N k44 44 w91 w.heap.size (fun k_ => some k_ ≠ (v202 : Value).ownBlock ∧ k_ ≠ gb193 ∧ k_ ≠ gb200) (.slice (some ⟨go3, 0, none⟩) y197.length co86) y197 from (by (with_reducible repeat (first | apply Kd.N_alloc | apply Kd.N_drewN | apply Kd.N_drew)); exact HO199.out)); obtain ⟨ce93, hcl93, hM93, hcc93, hfr93⟩ := Kd.N_elem HX93.out z44 (1 : Int) (by omega) (by have h_ : (1 : Int) < ((y197.length : Int) : Int) := odA; first | exact h_ | (have e_ := (Kd.N_reads' HO199.out).1; omega) | simpa using h_); obtain ⟨ua93_1, uc93_1, ua93_4, uc93_4, ua93_8, uc93_8, ua93_9, uc93_9, ua93_13, uc93_13, ua93_14, uc93_14, ua93_15, uc93_15, rfl, ul93_1, ge93_1, ul93_4, ge93_4, ul93_8, ge93_8, ul93_9, ge93_9, ul93_13, ge93_13, ul93_14, ge93_14, ul93_15, ge93_15⟩ := k44_openF hM93; have HP93 := Kd.N_seg HX93.out (1 : Int) (by omega) (by have h_ : (1 : Int) < ((y197.length : Int) : Int) := odA; first | exact h_ | (have e_ := (Kd.N_reads' HO199.out).1; omega) | simpa using h_) (seg := [.int .i64 (-1)]) (j := 6) hcl93 hcc93 (show 7 ≤ 16 from by decide) (x' := (⟨(rd_T44 y197 1).f0, (rd_T44 y197 1).f1, (rd_T44 y197 1).f2, (rd_T44 y197 1).f3, (rd_T44 y197 1).f4, (rd_T44 y197 1).f5, (-1), (rd_T44 y197 1).f7, (rd_T44 y197 1).f8, (rd_T44 y197 1).f9, (rd_T44 y197 1).f10, (rd_T44 y197 1).f11, (rd_T44 y197 1).f12, (rd_T44 y197 1).f13, (rd_T44 y197 1).f14, (rd_T44 y197 1).f15⟩ : S44)) (k44_mkF _ _ (⟨(rd_T44 y197 1).f0, (rd_T44 y197 1).f1, (rd_T44 y197 1).f2, (rd_T44 y197 1).f3, (rd_T44 y197 1).f4, (rd_T44 y197 1).f5, (-1), (rd_T44 y197 1).f7, (rd_T44 y197 1).f8, (rd_T44 y197 1).f9, (rd_T44 y197 1).f10, (rd_T44 y197 1).f11, (rd_T44 y197 1).f12, (rd_T44 y197 1).f13, (rd_T44 y197 1).f14, (rd_T44 y197 1).f15⟩ : S44) ul93_1 ge93_1 ul93_4 ge93_4 ul93_8 ge93_8 ul93_9 ge93_9 ul93_13 ge93_13 ul93_14 ge93_14 ul93_15 ge93_15) (fun _ hk => hk); have hx93_6 := hcc93 6 _ rfl; (try simp only [show (k44).sz = 16 from rfl, Nat.mul_one, Nat.add_zero] at hx93_6); (try rw [show ((1 : Int)).toNat = 1 from rfl] at hx93_6); (try simp only [Nat.reduceMul, Nat.zero_mul, Nat.zero_add, Nat.reduceAdd] at hx93_6); have hf93_6 := hfr93 6; (try simp only [show (k44).sz = 16 from rfl, Nat.mul_one, Nat.add_zero] at hf93_6); (try rw [show ((1 : Int)).toNat = 1 from rfl] at hf93_6); (try simp only [Nat.reduceMul, Nat.zero_mul, Nat.zero_add, Nat.reduceAdd] at hf93_6); clear hcl93 hcc93 hfr93 hM93) | ((with_reducible refine gate_store (t := 3) (p := 25) rfl ?_); refine store_event (t := 3) (p := 25) (v := ?vo_w94) (w1 := (w91.setCell ⟨go3, 22, none⟩ (.int .i64 (-1)))) ?hg ?ho ?hn ?hr ?_; (case ho => rfl); (case hg => rfl); (case hn => rfl); (case hr => first | (go_simp; done) | (go_simp; rfl)); intro w94 hw; have hg : w91.grownBy w94 (some go3) := (by rw [hw]; exact HP93.2); have hp_ : Kd.N k44 44 w94 w.heap.size (fun k_ => some k_ ≠ (v202 : Value).ownBlock ∧ k_ ≠ gb193 ∧ k_ ≠ gb200) (.slice (some ⟨go3, 0, none⟩) y197.length co86) y206 := (by rw [hw, Ny206.out]; exact HP93.1); clear HP93; have n0_ := Aside0.mk (blk_grown (g := gb193) (o := .cells #[.int .i64 2, .int .i64 0, .int .i64 10, .int .i64 5, .int .i64 3, .int .i64 20] 27 (0, 0)) (blk_move BK193.out) hg (Kd.N_ne HO199.out BK193.out (by decide))); have n1_ := Aside0.mk (hp_); have n2_ := Aside0.mk (blk_grown (g := gb200) (o := .cells #[.slice none 0 0, .slice (some ⟨go3, 0, none⟩) y197.length co86] 25 (0, 0)) (blk_move BK200.out) hg (Kd.N_ne HO199.out BK200.out (by decide))); have n3_ := Aside0.mk (Kd.R_over' (v := (.slice (some ⟨go3, 0, none⟩) y197.length co86)) (by (with_reducible repeat (first | apply Kd.R_alloc | apply Kd.R_drewN | apply Kd.R_drew)); exact HO203.out) (Kd.N_typed HO199.out) (by decide) hg); have n4_ := Aside0.mk ((by rw [hw]; exact below_set (HB.out) GB3.out : Below w.heap.size w w94)); clear BK193; clear HO199; clear BK200; clear HO203; clear HB; have BK193 := n0_; have HO199 := n1_; have BK200 := n2_; have HO203 := n3_; have HB := n4_; clear n0_ n1_ n2_ n3_ n4_; clear hg hw hp_; have hz95 := blk2 BK200.out; have hz96 := blk6 BK193.out) | ((with_reducible refine gate_callee (f := 9) rfl ?_); refine goesL_ (some 29) rfl rfl Try.func9 (by kernel_rfl) rfl #[.agg #[.slice none 0 0, .slice (some ⟨go3, 0, none⟩) y206.length co86], .agg #[.int .i64 2, .int .i64 0, .int .i64 10, .int .i64 5, .int .i64 3, .int .i64 20]] rfl (by (try simp only [List.map_toArray, List.map_cons, List.map_nil]); first | done | (rw [show y206.length = y197.length from (Kd.N_reads' HO199.out).1.symm] <;> rfl) | rfl | (simp only [List.length_drop, List.length_take]; rfl)) ?_; (refine (bounds_Analyze.calls k _ _ ([] : List (S95)) _ _ y206 2 0 10 5 3 20 t207 t210 t211 _ ?side1 ?side2 ?side3 ?side4 A4.out).mono ?_); (case side1 => exact Kd.C_nil _ _); (case side2 => exact Nat.le_refl _); (case side3 => repeat (first | exact (Kd.N_reads' HO199.out).2.2 | (with_reducible refine Kd.C_alloc ?_ _) | (with_reducible refine Kd.C_drewN ?_ _) | (with_reducible refine Kd.C_drew ?_))); (case side4 => rw [show y206.length = y197.length from (Kd.N_reads' HO199.out).1.symm]; exact (Kd.N_reads' HO199.out).2.1); rintro e w97 ⟨v208, rfl, ho0, hb⟩; refine ⟨_, rfl, ?_⟩; have HO209 := Aside0.mk (Kd.R_lower (Kd.R_new' ho0 (Kd.R_lt (by (with_reducible repeat (first | apply Kd.R_alloc | apply Kd.R_drewN | apply Kd.R_drew)); exact HO203.out))) below_sizeA); replace HO199 := Aside0.mk (Kd.N_elder' (by (with_reducible repeat (first | apply Kd.N_alloc | apply Kd.N_drewN | apply Kd.N_drew)); exact HO199.out) (Kd.R_base ho0) hb); replace HO203 := Aside0.mk (Kd.R_elder' (by (with_reducible repeat (first | apply Kd.R_alloc | apply Kd.R_drewN | apply Kd.R_drew)); exact HO203.out) (Kd.R_base ho0) hb); replace BK193 := Aside0.mk (blk_keepA BK193.out hb); replace BK200 := Aside0.mk (blk_keepA BK200.out hb); replace HB := Aside0.mk (below_stepA hb); (try clear hb); (try clear ho0)))
   go_ret
   exact ⟨by first | rfl | (simp [errW_none, errW_some] <;> rfl) | (simp [*, errW_none, errW_some] <;> rfl), belowA⟩
 ·
  rw [if_neg c5] at H
  have c5b0 : (t205 == 0) = false := beq_eq_false_iff_ne.mpr c5
  have c5b1 : (t205 != 0) = true := bne_iff_ne.mpr c5
  obtain rfl := Option.some.inj H
  go_enter Try.func7, Try.ntmps7
  go_wp2_with (first | ((with_reducible refine gate_dst (N := 1) rfl ?_); (try (refine gate_guard (by rfl) ?_; dsimp only)); refine box_event ?hg (N := 1) ?hd (cs := #[.int .i64 0, .int .i64 0, .int .i64 0, .int .i64 0, .int .i64 0, .int .i64 0]) (t := 27) ?hr ?_; (case hd => rfl); (case hg => rfl); (case hr => first | (go_simp; done) | (go_simp; rfl)); intro gb193 hg w98 hbox hb; have BK193 := Aside0.mk (hbox); have GW193 := Aside0.mk ((by rw [hg]; exact below_sizeA : w.heap.size ≤ gb193)); have GE193 := GW193; replace HB := Aside0.mk (below_stepA hb); clear hb hbox hg; have hz99 := blk6 BK193.out) | ((with_reducible refine gate_dst (N := 11) rfl ?_); (try (refine gate_guard (by rfl) ?_; dsimp only)); refine Kd.R_lit (Kd.int .i64) _ 3 ?hg (N := 11) ?hd (xs := ([0] : List Int)) (inner := [.int .i64 0]) (ok := fun _ => True) (okp := fun _ => True) ?hr ?hp (fun _ hk => hk) trivial (Below.refl _ _) (Nat.le_refl _) (by simp) ?_; (case hd => rfl); (case hg => rfl); (case hr => first | (go_simp; done) | (go_simp; rfl)); (case hp => exact (Reps.one (show Kd.M (Kd.int .i64) _ _ _ 0 [.int .i64 0] from rfl) (Reps.none _ _))); intro v195 w100 ho101 hb hg_ hnew_; clear hg_ hnew_; (first | rw [← Ny194.out] at ho101 | (simp only [Int.reduceToNat] at ho101; rw [← Ny194.out] at ho101)); have HO196 := Aside0.mk (Kd.R_lower ho101 below_sizeA); replace BK193 := Aside0.mk (blk_below (g := gb193) (o := .cells #[.int .i64 2, .int .i64 0, .int .i64 10, .int .i64 5, .int .i64 3, .int .i64 20] 27 (0, 0)) (blk_move BK193.out) hb); replace HB := Aside0.mk (below_stepA hb); clear hb ho101; obtain ⟨Ao102, co102, eo102⟩ := Kd.R_slice HO196.out; subst eo102) | ((with_reducible refine gate_dst (N := 13) rfl ?_); (try (refine gate_guard (by rfl) ?_; dsimp only)); refine Kd.N_lit k44 _ 44 ?hg (N' := 13) ?hd (xs := ([(⟨0, ([] : List Int), (⟨#[]⟩ : ByteArray), 0, ([] : List (S93)), 0, 0, 0, ([] : List Int), ([] : List Int), 0, 0, 0, ([] : List (S97)), ([] : List (S99)), ([] : List (S50))⟩ : S44), (⟨4, y194, (⟨#[]⟩ : ByteArray), 0, ([] : List (S93)), 0, 60, 0, ([] : List Int), ([] : List Int), 0, 0, 0, ([] : List (S97)), ([] : List (S99)), ([] : List (S50))⟩ : S44)] : List (S44))) (inner := [.int .i64 0, .slice none 0 0, .string (⟨#[]⟩ : ByteArray), .int .i64 0, .slice none 0 0, .int .i64 0, .int .i64 0, .int .i64 0, .slice none 0 0, .slice none 0 0, .int .i64 0, .int .i64 0, .int .i64 0, .slice none 0 0, .slice none 0 0, .slice none 0 0, .int .i64 4, .slice Ao102 y194.length co102, .string (⟨#[]⟩ : ByteArray), .int .i64 0, .slice none 0 0, .int .i64 0, .int .i64 60, .int .i64 0, .slice none 0 0, .slice none 0 0, .int .i64 0, .int .i64 0, .int .i64 0, .slice none 0 0, .slice none 0 0, .slice none 0 0]) (ok := (fun k_ => k_ ≠ gb193)) (okp := (fun k_ => k_ ≠ gb193)) ?hr ?hp (fun _ hk => hk) ((show ∀ k_, w100.heap.size ≤ k_ → (fun k_ => k_ ≠ gb193) k_ from fun k_ hk => Kd.freshB (g := gb193) (o := .cells #[.int .i64 2, .int .i64 0, .int .i64 10, .int .i64 5, .int .i64 3, .int .i64 20] 27 (0, 0)) (blk_move BK193.out) k_ hk) _ (Nat.le_refl _)) (Below.refl _ _) (Nat.le_refl _) (by simp) ?_; (case hd => rfl); (case hg => rfl); (case hr => first | (go_simp; done) | (go_simp; rfl)); (case hp => exact (Reps.front (show Kd.FK k44 _ _ (⟨0, ([] : List Int), (⟨#[]⟩ : ByteArray), 0, ([] : List (S93)), 0, 0, 0, ([] : List Int), ([] : List Int), 0, 0, 0, ([] : List (S97)), ([] : List (S99)), ([] : List (S50))⟩ : S44) [.int .i64 0, .slice none 0 0, .string (⟨#[]⟩ : ByteArray), .int .i64 0, .slice none 0 0, .int .i64 0, .int .i64 0, .int .i64 0, .slice none 0 0, .slice none 0 0, .int .i64 0, .int .i64 0, .int .i64 0, .slice none 0 0, .slice none 0 0, .slice none 0 0] from (k44_mkF _ _ (⟨0, ([] : List Int), (⟨#[]⟩ : ByteArray), 0, ([] : List (S93)), 0, 0, 0, ([] : List Int), ([] : List Int), 0, 0, 0, ([] : List (S97)), ([] : List (S99)), ([] : List (S50))⟩ : S44) (Nat.le_refl _) (Kd.F_nil _ _ _) (Nat.le_refl _) (Kd.F_nil _ _ _) (Nat.le_refl _) (Kd.F_nil _ _ _) (Nat.le_refl _) (Kd.F_nil _ _ _) (Nat.le_refl _) (Kd.F_nil _ _ _) (Nat.le_refl _) (Kd.F_nil _ _ _) (Nat.le_refl _) (Kd.F_nil _ _ _))) rfl (Reps.front (show Kd.FK k44 _ _ (⟨4, y194, (⟨#[]⟩ : ByteArray), 0, ([] : List (S93)), 0, 60, 0, ([] : List Int), ([] : List Int), 0, 0, 0, ([] : List (S97)), ([] : List (S99)), ([] : List (S50))⟩ : S44) [.int .i64 4, .slice Ao102 y194.length co102, .string (⟨#[]⟩ : ByteArray), .int .i64 0, .slice none 0 0, .int .i64 0, .int .i64 60, .int .i64 0, .slice none 0 0, .slice none 0 0, .int .i64 0, .int .i64 0, .int .i64 0, .slice none 0 0, .slice none 0 0, .slice none 0 0] from (k44_mkF _ _ (⟨4, y194, (⟨#[]⟩ : ByteArray), 0, ([] : List (S93)), 0, 60, 0, ([] : List Int), ([] : List Int), 0, 0, 0, ([] : List (S97)), ([] : List (S99)), ([] : List (S50))⟩ : S44) (Kd.R_reads' (Kd.R_mono (ok' := (fun k_ => k_ ≠ gb193)) (Kd.R_types (HO196.out) BK193.out (by decide)) (fun k_ hk => hk.2))).2.1 (Kd.R_F (Kd.R_mono (ok' := (fun k_ => k_ ≠ gb193)) (Kd.R_types (HO196.out) BK193.out (by decide)) (fun k_ hk => hk.2))) (Nat.le_refl _) (Kd.F_nil _ _ _) (Nat.le_refl _) (Kd.F_nil _ _ _) (Nat.le_refl _) (Kd.F_nil _ _ _) (Nat.le_refl _) (Kd.F_nil _ _ _) (Nat.le_refl _) (Kd.F_nil _ _ _) (Nat.le_refl _) (Kd.F_nil _ _ _))) rfl (Reps.none _ _) rfl) rfl)); intro v198 w103 ho104 hb hg_ hnew_; clear hg_ hnew_; (first | rw [← Ny197.out] at ho104 | (simp only [Int.reduceToNat] at ho104; rw [← Ny197.out] at ho104)); have n0_ := Aside0.mk (Kd.N_lower ho104 below_sizeA); have n1_ := Aside0.mk (blk_keepA BK193.out hb); have n2_ := Aside0.mk (below_stepA hb); clear BK193; clear HB; clear HO196; have HO199 := n0_; have BK193 := n1_; have HB := n2_; clear n0_ n1_ n2_; clear hb ho104; obtain ⟨Ao105, co105, eo105⟩ := Kd.N_slice HO199.out; subst eo105) | ((with_reducible refine gate_dst (N := 2) rfl ?_); (try (refine gate_guard (by rfl) ?_; dsimp only)); refine box_event ?hg (N := 2) ?hd (cs := #[.slice none 0 0, .slice none 0 0]) (t := 25) ?hr ?_; (case hd => rfl); (case hg => rfl); (case hr => first | (go_simp; done) | (go_simp; rfl)); intro gb200 hg w106 hbox hb; have BK200 := Aside0.mk (hbox); have GW200 := Aside0.mk ((by rw [hg]; exact below_sizeA : w.heap.size ≤ gb200)); have GE200 := GW200; have NB193_200 := Aside0.mk ((by rw [hg]; exact Nat.ne_of_lt (blk_ltKA BK193.out) : gb193 ≠ gb200)); have NB200_193 := Aside0.mk NB193_200.out.symm; replace HO199 := Aside0.mk (Kd.N_below (Kd.N_elderB (by (with_reducible repeat (first | apply Kd.N_alloc | apply Kd.N_drewN | apply Kd.N_drew)); exact HO199.out) gb200 (Nat.le_of_eq hg.symm)) hb); replace BK193 := Aside0.mk (blk_keepA BK193.out hb); replace HB := Aside0.mk (below_stepA hb); clear hb hbox hg; have hnb107 := NB200_193.out; have hnc107 := NB193_200.out; have hz108 := blk2 BK200.out; have hz109 := blk6 BK193.out) | ((with_reducible refine gate_callee (f := 9) rfl ?_); refine goesL_ (some 18) rfl rfl Try.func9 (by kernel_rfl) rfl #[.agg #[.slice none 0 0, .slice Ao105 y197.length co105], .agg #[.int .i64 2, .int .i64 0, .int .i64 10, .int .i64 5, .int .i64 3, .int .i64 20]] rfl mapA ?_; (refine (bounds_Analyze.calls k _ _ ([] : List (S95)) _ _ y197 2 0 10 5 3 20 t201 t204 t205 _ ?side1 ?side2 ?side3 ?side4 A1.out).mono ?_); (case side1 => exact Kd.C_nil _ _); (case side2 => exact Nat.le_refl _); (case side3 => refine (Kd.N_reads' (e := 44) (base := w.heap.size) (ok := fun k_ => (k_ ≠ gb193 ∧ k_ ≠ gb200)) (n := y197.length) (c := co105) ?_).2.2; exact (by (with_reducible repeat (first | apply Kd.N_alloc | apply Kd.N_drewN | apply Kd.N_drew)); exact (Kd.N_mono (Kd.N_far (p := ⟨gb200, 1, none⟩) (Kd.N_far (p := ⟨gb200, 0, none⟩) (Kd.N_mono HO199.out (fun k_ hk => (⟨hk, hk.2⟩ : _ ∧ k_ ≠ gb200))) (fun _ hk => hk.2) (.slice none 0 0)) (fun _ hk => hk.2) (.slice Ao105 y197.length co105)) (fun _ h_ => h_.1)))); (case side4 => exact (Kd.N_reads' HO199.out).2.1); rintro e w110 ⟨v202, rfl, ho0, hb⟩; refine ⟨_, rfl, ?_⟩; have HO203 := Aside0.mk (Kd.R_lower ho0 below_sizeA); replace HO199 := Aside0.mk (Kd.N_elder' (by (with_reducible repeat (first | apply Kd.N_alloc | apply Kd.N_drewN | apply Kd.N_drew)); exact (Kd.N_mono (Kd.N_far (p := ⟨gb200, 1, none⟩) (Kd.N_far (p := ⟨gb200, 0, none⟩) (Kd.N_mono HO199.out (fun k_ hk => (⟨hk, hk.2⟩ : _ ∧ k_ ≠ gb200))) (fun _ hk => hk.2) (.slice none 0 0)) (fun _ hk => hk.2) (.slice Ao105 y197.length co105)) (fun _ h_ => h_.1))) (Kd.R_base ho0) hb); replace BK193 := Aside0.mk (blk_keepA BK193.out hb); replace BK200 := Aside0.mk (blk_below (g := gb200) (o := .cells #[.slice none 0 0, .slice Ao105 y197.length co105] 25 (0, 0)) (blk_move BK200.out) hb); replace HB := Aside0.mk (below_stepA hb); (try clear hb); (try clear ho0); have hz111 := blk2 BK200.out; have p3 : 0 ≤ (1 : Int) := (by omega); have q3 : (1 : Int) < ((y197.length : Int) : Int) := odA; have qi3 : (1 < y197.length) = True := eq_true (by omega); obtain ⟨go3, co3, eo3, gb3, gl3, cl3, HG3⟩ := Kd.N_form HO199.out (by omega); (first | cases eo3 | (injection eo3 with ea_ en_ ec_; (first | subst ea_ | (injection ea_ with ea_; subst ea_)); subst ec_; clear en_)); have GB3 := Aside0.mk gb3; have GG3 := Aside0.mk HG3; clear gb3 gl3 HG3; obtain ⟨ce3, hcl3, hM3, hcc3, hfr3⟩ := Kd.N_elem HO199.out z44 (1 : Int) p3 q3; obtain ⟨ua3_1, uc3_1, ua3_4, uc3_4, ua3_8, uc3_8, ua3_9, uc3_9, ua3_13, uc3_13, ua3_14, uc3_14, ua3_15, uc3_15, rfl, ul3_1, ge3_1, ul3_4, ge3_4, ul3_8, ge3_8, ul3_9, ge3_9, ul3_13, ge3_13, ul3_14, ge3_14, ul3_15, ge3_15⟩ := k44_openF hM3; have hx3_0 : w110.cell? ⟨go3, (1 : Int).toNat * 16, none⟩ = some (.int .i64 ((rd_T44 y197 1).f0)) := hcc3 0 _ rfl; have hx3_1 : w110.cell? ⟨go3, (1 : Int).toNat * 16 + 1, none⟩ = some (.slice ua3_1 ((rd_T44 y197 1).f1).length uc3_1) := hcc3 1 _ rfl; have hx3_2 : w110.cell? ⟨go3, (1 : Int).toNat * 16 + 2, none⟩ = some (.string ((rd_T44 y197 1).f2)) := hcc3 2 _ rfl; have hx3_3 : w110.cell? ⟨go3, (1 : Int).toNat * 16 + 3, none⟩ = some (.int .i64 ((rd_T44 y197 1).f3)) := hcc3 3 _ rfl; have hx3_4 : w110.cell? ⟨go3, (1 : Int).toNat * 16 + 4, none⟩ = some (.slice ua3_4 ((rd_T44 y197 1).f4).length uc3_4) := hcc3 4 _ rfl; have hx3_5 : w110.cell? ⟨go3, (1 : Int).toNat * 16 + 5, none⟩ = some (.int .i64 ((rd_T44 y197 1).f5)) := hcc3 5 _ rfl; have hx3_6 : w110.cell? ⟨go3, (1 : Int).toNat * 16 + 6, none⟩ = some (.int .i64 ((rd_T44 y197 1).f6)) := hcc3 6 _ rfl; have hx3_7 : w110.cell? ⟨go3, (1 : Int).toNat * 16 + 7, none⟩ = some (.int .i64 ((rd_T44 y197 1).f7)) := hcc3 7 _ rfl; have hx3_8 : w110.cell? ⟨go3, (1 : Int).toNat * 16 + 8, none⟩ = some (.slice ua3_8 ((rd_T44 y197 1).f8).length uc3_8) := hcc3 8 _ rfl; have hx3_9 : w110.cell? ⟨go3, (1 : Int).toNat * 16 + 9, none⟩ = some (.slice ua3_9 ((rd_T44 y197 1).f9).length uc3_9) := hcc3 9 _ rfl; have hx3_10 : w110.cell? ⟨go3, (1 : Int).toNat * 16 + 10, none⟩ = some (.int .i64 ((rd_T44 y197 1).f10)) := hcc3 10 _ rfl; have hx3_11 : w110.cell? ⟨go3, (1 : Int).toNat * 16 + 11, none⟩ = some (.int .i64 ((rd_T44 y197 1).f11)) := hcc3 11 _ rfl; have hx3_12 : w110.cell? ⟨go3, (1 : Int).toNat * 16 + 12, none⟩ = some (.int .i64 ((rd_T44 y197 1).f12)) := hcc3 12 _ rfl; have hx3_13 : w110.cell? ⟨go3, (1 : Int).toNat * 16 + 13, none⟩ = some (.slice ua3_13 ((rd_T44 y197 1).f13).length uc3_13) := hcc3 13 _ rfl; have hx3_14 : w110.cell? ⟨go3, (1 : Int).toNat * 16 + 14, none⟩ = some (.slice ua3_14 ((rd_T44 y197 1).f14).length uc3_14) := hcc3 14 _ rfl; have hx3_15 : w110.cell? ⟨go3, (1 : Int).toNat * 16 + 15, none⟩ = some (.slice ua3_15 ((rd_T44 y197 1).f15).length uc3_15) := hcc3 15 _ rfl; have hf3_0 : w110.frozen? ⟨go3, (1 : Int).toNat * 16, none⟩ = false := hfr3 0; have hf3_1 : w110.frozen? ⟨go3, (1 : Int).toNat * 16 + 1, none⟩ = false := hfr3 1; have hf3_2 : w110.frozen? ⟨go3, (1 : Int).toNat * 16 + 2, none⟩ = false := hfr3 2; have hf3_3 : w110.frozen? ⟨go3, (1 : Int).toNat * 16 + 3, none⟩ = false := hfr3 3; have hf3_4 : w110.frozen? ⟨go3, (1 : Int).toNat * 16 + 4, none⟩ = false := hfr3 4; have hf3_5 : w110.frozen? ⟨go3, (1 : Int).toNat * 16 + 5, none⟩ = false := hfr3 5; have hf3_6 : w110.frozen? ⟨go3, (1 : Int).toNat * 16 + 6, none⟩ = false := hfr3 6; have hf3_7 : w110.frozen? ⟨go3, (1 : Int).toNat * 16 + 7, none⟩ = false := hfr3 7; have hf3_8 : w110.frozen? ⟨go3, (1 : Int).toNat * 16 + 8, none⟩ = false := hfr3 8; have hf3_9 : w110.frozen? ⟨go3, (1 : Int).toNat * 16 + 9, none⟩ = false := hfr3 9; have hf3_10 : w110.frozen? ⟨go3, (1 : Int).toNat * 16 + 10, none⟩ = false := hfr3 10; have hf3_11 : w110.frozen? ⟨go3, (1 : Int).toNat * 16 + 11, none⟩ = false := hfr3 11; have hf3_12 : w110.frozen? ⟨go3, (1 : Int).toNat * 16 + 12, none⟩ = false := hfr3 12; have hf3_13 : w110.frozen? ⟨go3, (1 : Int).toNat * 16 + 13, none⟩ = false := hfr3 13; have hf3_14 : w110.frozen? ⟨go3, (1 : Int).toNat * 16 + 14, none⟩ = false := hfr3 14; have hf3_15 : w110.frozen? ⟨go3, (1 : Int).toNat * 16 + 15, none⟩ = false := hfr3 15; clear hcl3 hcc3 hfr3 hM3; (try rw [show ((1 : Int)).toNat = 1 from rfl] at hx3_0); (try simp only [Nat.reduceMul, Nat.zero_mul, Nat.zero_add, Nat.reduceAdd] at hx3_0); (try rw [show ((1 : Int)).toNat = 1 from rfl] at hf3_0); (try simp only [Nat.reduceMul, Nat.zero_mul, Nat.zero_add, Nat.reduceAdd] at hf3_0); (try rw [show ((1 : Int)).toNat = 1 from rfl] at hx3_1); (try simp only [Nat.reduceMul, Nat.zero_mul, Nat.zero_add, Nat.reduceAdd] at hx3_1); (try rw [show ((1 : Int)).toNat = 1 from rfl] at hf3_1); (try simp only [Nat.reduceMul, Nat.zero_mul, Nat.zero_add, Nat.reduceAdd] at hf3_1); (try rw [show ((1 : Int)).toNat = 1 from rfl] at hx3_2); (try simp only [Nat.reduceMul, Nat.zero_mul, Nat.zero_add, Nat.reduceAdd] at hx3_2); (try rw [show ((1 : Int)).toNat = 1 from rfl] at hf3_2); (try simp only [Nat.reduceMul, Nat.zero_mul, Nat.zero_add, Nat.reduceAdd] at hf3_2); (try rw [show ((1 : Int)).toNat = 1 from rfl] at hx3_3); (try simp only [Nat.reduceMul, Nat.zero_mul, Nat.zero_add, Nat.reduceAdd] at hx3_3); (try rw [show ((1 : Int)).toNat = 1 from rfl] at hf3_3); (try simp only [Nat.reduceMul, Nat.zero_mul, Nat.zero_add, Nat.reduceAdd] at hf3_3); (try rw [show ((1 : Int)).toNat = 1 from rfl] at hx3_4); (try simp only [Nat.reduceMul, Nat.zero_mul, Nat.zero_add, Nat.reduceAdd] at hx3_4); (try rw [show ((1 : Int)).toNat = 1 from rfl] at hf3_4); (try simp only [Nat.reduceMul, Nat.zero_mul, Nat.zero_add, Nat.reduceAdd] at hf3_4); (try rw [show ((1 : Int)).toNat = 1 from rfl] at hx3_5); (try simp only [Nat.reduceMul, Nat.zero_mul, Nat.zero_add, Nat.reduceAdd] at hx3_5); (try rw [show ((1 : Int)).toNat = 1 from rfl] at hf3_5); (try simp only [Nat.reduceMul, Nat.zero_mul, Nat.zero_add, Nat.reduceAdd] at hf3_5); (try rw [show ((1 : Int)).toNat = 1 from rfl] at hx3_6); (try simp only [Nat.reduceMul, Nat.zero_mul, Nat.zero_add, Nat.reduceAdd] at hx3_6); (try rw [show ((1 : Int)).toNat = 1 from rfl] at hf3_6); (try simp only [Nat.reduceMul, Nat.zero_mul, Nat.zero_add, Nat.reduceAdd] at hf3_6); (try rw [show ((1 : Int)).toNat = 1 from rfl] at hx3_7); (try simp only [Nat.reduceMul, Nat.zero_mul, Nat.zero_add, Nat.reduceAdd] at hx3_7); (try rw [show ((1 : Int)).toNat = 1 from rfl] at hf3_7); (try simp only [Nat.reduceMul, Nat.zero_mul, Nat.zero_add, Nat.reduceAdd] at hf3_7); (try rw [show ((1 : Int)).toNat = 1 from rfl] at hx3_8); (try simp only [Nat.reduceMul, Nat.zero_mul, Nat.zero_add, Nat.reduceAdd] at hx3_8); (try rw [show ((1 : Int)).toNat = 1 from rfl] at hf3_8); (try simp only [Nat.reduceMul, Nat.zero_mul, Nat.zero_add, Nat.reduceAdd] at hf3_8); (try rw [show ((1 : Int)).toNat = 1 from rfl] at hx3_9); (try simp only [Nat.reduceMul, Nat.zero_mul, Nat.zero_add, Nat.reduceAdd] at hx3_9); (try rw [show ((1 : Int)).toNat = 1 from rfl] at hf3_9); (try simp only [Nat.reduceMul, Nat.zero_mul, Nat.zero_add, Nat.reduceAdd] at hf3_9); (try rw [show ((1 : Int)).toNat = 1 from rfl] at hx3_10); (try simp only [Nat.reduceMul, Nat.zero_mul, Nat.zero_add, Nat.reduceAdd] at hx3_10); (try rw [show ((1 : Int)).toNat = 1 from rfl] at hf3_10); (try simp only [Nat.reduceMul, Nat.zero_mul, Nat.zero_add, Nat.reduceAdd] at hf3_10); (try rw [show ((1 : Int)).toNat = 1 from rfl] at hx3_11); (try simp only [Nat.reduceMul, Nat.zero_mul, Nat.zero_add, Nat.reduceAdd] at hx3_11); (try rw [show ((1 : Int)).toNat = 1 from rfl] at hf3_11); (try simp only [Nat.reduceMul, Nat.zero_mul, Nat.zero_add, Nat.reduceAdd] at hf3_11); (try rw [show ((1 : Int)).toNat = 1 from rfl] at hx3_12); (try simp only [Nat.reduceMul, Nat.zero_mul, Nat.zero_add, Nat.reduceAdd] at hx3_12); (try rw [show ((1 : Int)).toNat = 1 from rfl] at hf3_12); (try simp only [Nat.reduceMul, Nat.zero_mul, Nat.zero_add, Nat.reduceAdd] at hf3_12); (try rw [show ((1 : Int)).toNat = 1 from rfl] at hx3_13); (try simp only [Nat.reduceMul, Nat.zero_mul, Nat.zero_add, Nat.reduceAdd] at hx3_13); (try rw [show ((1 : Int)).toNat = 1 from rfl] at hf3_13); (try simp only [Nat.reduceMul, Nat.zero_mul, Nat.zero_add, Nat.reduceAdd] at hf3_13); (try rw [show ((1 : Int)).toNat = 1 from rfl] at hx3_14); (try simp only [Nat.reduceMul, Nat.zero_mul, Nat.zero_add, Nat.reduceAdd] at hx3_14); (try rw [show ((1 : Int)).toNat = 1 from rfl] at hf3_14); (try simp only [Nat.reduceMul, Nat.zero_mul, Nat.zero_add, Nat.reduceAdd] at hf3_14); (try rw [show ((1 : Int)).toNat = 1 from rfl] at hx3_15); (try simp only [Nat.reduceMul, Nat.zero_mul, Nat.zero_add, Nat.reduceAdd] at hx3_15); (try rw [show ((1 : Int)).toNat = 1 from rfl] at hf3_15); (try simp only [Nat.reduceMul, Nat.zero_mul, Nat.zero_add, Nat.reduceAdd] at hf3_15); replace p3 := eq_true p3; replace q3 := eq_true q3; have n_ := Aside0.mk (Kd.N_mono (ok' := (fun k_ => some k_ ≠ (v202 : Value).ownBlock ∧ k_ ≠ gb193 ∧ k_ ≠ gb200)) HO199.out (fun k_ hk => ⟨hk.2, ⟨hk.1.1, hk.1.2⟩⟩)); clear HO199; have HO199 := n_; clear n_; have HX112 := Aside0.mk (show Kd.N k44 44 w110 w.heap.size (fun k_ => some k_ ≠ (v202 : Value).ownBlock ∧ k_ ≠ gb193 ∧ k_ ≠ gb200) (.slice (some ⟨go3, 0, none⟩) y197.length co105) y197 from (by (with_reducible repeat (first | apply Kd.N_alloc | apply Kd.N_drewN | apply Kd.N_drew)); exact HO199.out)); obtain ⟨ce112, hcl112, hM112, hcc112, hfr112⟩ := Kd.N_elem HX112.out z44 (1 : Int) (by omega) (by have h_ : (1 : Int) < ((y197.length : Int) : Int) := odA; first | exact h_ | (have e_ := (Kd.N_reads' HO199.out).1; omega) | simpa using h_); obtain ⟨ua112_1, uc112_1, ua112_4, uc112_4, ua112_8, uc112_8, ua112_9, uc112_9, ua112_13, uc112_13, ua112_14, uc112_14, ua112_15, uc112_15, rfl, ul112_1, ge112_1, ul112_4, ge112_4, ul112_8, ge112_8, ul112_9, ge112_9, ul112_13, ge112_13, ul112_14, ge112_14, ul112_15, ge112_15⟩ := k44_openF hM112; have HP112 := Kd.N_seg HX112.out (1 : Int) (by omega) (by have h_ : (1 : Int) < ((y197.length : Int) : Int) := odA; first | exact h_ | (have e_ := (Kd.N_reads' HO199.out).1; omega) | simpa using h_) (seg := [.int .i64 (-1)]) (j := 6) hcl112 hcc112 (show 7 ≤ 16 from by decide) (x' := (⟨(rd_T44 y197 1).f0, (rd_T44 y197 1).f1, (rd_T44 y197 1).f2, (rd_T44 y197 1).f3, (rd_T44 y197 1).f4, (rd_T44 y197 1).f5, (-1), (rd_T44 y197 1).f7, (rd_T44 y197 1).f8, (rd_T44 y197 1).f9, (rd_T44 y197 1).f10, (rd_T44 y197 1).f11, (rd_T44 y197 1).f12, (rd_T44 y197 1).f13, (rd_T44 y197 1).f14, (rd_T44 y197 1).f15⟩ : S44)) (k44_mkF _ _ (⟨(rd_T44 y197 1).f0, (rd_T44 y197 1).f1, (rd_T44 y197 1).f2, (rd_T44 y197 1).f3, (rd_T44 y197 1).f4, (rd_T44 y197 1).f5, (-1), (rd_T44 y197 1).f7, (rd_T44 y197 1).f8, (rd_T44 y197 1).f9, (rd_T44 y197 1).f10, (rd_T44 y197 1).f11, (rd_T44 y197 1).f12, (rd_T44 y197 1).f13, (rd_T44 y197 1).f14, (rd_T44 y197 1).f15⟩ : S44) ul112_1 ge112_1 ul112_4 ge112_4 ul112_8 ge112_8 ul112_9 ge112_9 ul112_13 ge112_13 ul112_14 ge112_14 ul112_15 ge112_15) (fun _ hk => hk); have hx112_6 := hcc112 6 _ rfl; (try simp only [show (k44).sz = 16 from rfl, Nat.mul_one, Nat.add_zero] at hx112_6); (try rw [show ((1 : Int)).toNat = 1 from rfl] at hx112_6); (try simp only [Nat.reduceMul, Nat.zero_mul, Nat.zero_add, Nat.reduceAdd] at hx112_6); have hf112_6 := hfr112 6; (try simp only [show (k44).sz = 16 from rfl, Nat.mul_one, Nat.add_zero] at hf112_6); (try rw [show ((1 : Int)).toNat = 1 from rfl] at hf112_6); (try simp only [Nat.reduceMul, Nat.zero_mul, Nat.zero_add, Nat.reduceAdd] at hf112_6); clear hcl112 hcc112 hfr112 hM112) | ((with_reducible refine gate_store (t := 3) (p := 25) rfl ?_); refine store_event (t := 3) (p := 25) (v := ?vo_w113) (w1 := (w110.setCell ⟨go3, 22, none⟩ (.int .i64 (-1)))) ?hg ?ho ?hn ?hr ?_; (case ho => rfl); (case hg => rfl); (case hn => rfl); (case hr => first | (go_simp; done) | (go_simp; rfl)); intro w113 hw; have hg : w110.grownBy w113 (some go3) := (by rw [hw]; exact HP112.2); have hp_ : Kd.N k44 44 w113 w.heap.size (fun k_ => some k_ ≠ (v202 : Value).ownBlock ∧ k_ ≠ gb193 ∧ k_ ≠ gb200) (.slice (some ⟨go3, 0, none⟩) y197.length co105) y206 := (by rw [hw, Ny206.out]; exact HP112.1); clear HP112; have n0_ := Aside0.mk (blk_grown (g := gb193) (o := .cells #[.int .i64 2, .int .i64 0, .int .i64 10, .int .i64 5, .int .i64 3, .int .i64 20] 27 (0, 0)) (blk_move BK193.out) hg (Kd.N_ne HO199.out BK193.out (by decide))); have n1_ := Aside0.mk (hp_); have n2_ := Aside0.mk (blk_grown (g := gb200) (o := .cells #[.slice none 0 0, .slice (some ⟨go3, 0, none⟩) y197.length co105] 25 (0, 0)) (blk_move BK200.out) hg (Kd.N_ne HO199.out BK200.out (by decide))); have n3_ := Aside0.mk (Kd.R_over' (v := (.slice (some ⟨go3, 0, none⟩) y197.length co105)) (by (with_reducible repeat (first | apply Kd.R_alloc | apply Kd.R_drewN | apply Kd.R_drew)); exact HO203.out) (Kd.N_typed HO199.out) (by decide) hg); have n4_ := Aside0.mk ((by rw [hw]; exact below_set (HB.out) GB3.out : Below w.heap.size w w113)); clear BK193; clear HO199; clear BK200; clear HO203; clear HB; have BK193 := n0_; have HO199 := n1_; have BK200 := n2_; have HO203 := n3_; have HB := n4_; clear n0_ n1_ n2_ n3_ n4_; clear hg hw hp_; have hz114 := blk2 BK200.out; have hz115 := blk6 BK193.out) | ((with_reducible refine gate_callee (f := 9) rfl ?_); refine goesL_ (some 29) rfl rfl Try.func9 (by kernel_rfl) rfl #[.agg #[.slice none 0 0, .slice (some ⟨go3, 0, none⟩) y206.length co105], .agg #[.int .i64 2, .int .i64 0, .int .i64 10, .int .i64 5, .int .i64 3, .int .i64 20]] rfl (by (try simp only [List.map_toArray, List.map_cons, List.map_nil]); first | done | (rw [show y206.length = y197.length from (Kd.N_reads' HO199.out).1.symm] <;> rfl) | rfl | (simp only [List.length_drop, List.length_take]; rfl)) ?_; (refine (bounds_Analyze.calls k _ _ ([] : List (S95)) _ _ y206 2 0 10 5 3 20 t207 t210 t211 _ ?side1 ?side2 ?side3 ?side4 A4.out).mono ?_); (case side1 => exact Kd.C_nil _ _); (case side2 => exact Nat.le_refl _); (case side3 => repeat (first | exact (Kd.N_reads' HO199.out).2.2 | (with_reducible refine Kd.C_alloc ?_ _) | (with_reducible refine Kd.C_drewN ?_ _) | (with_reducible refine Kd.C_drew ?_))); (case side4 => rw [show y206.length = y197.length from (Kd.N_reads' HO199.out).1.symm]; exact (Kd.N_reads' HO199.out).2.1); rintro e w116 ⟨v208, rfl, ho0, hb⟩; refine ⟨_, rfl, ?_⟩; have HO209 := Aside0.mk (Kd.R_lower (Kd.R_new' ho0 (Kd.R_lt (by (with_reducible repeat (first | apply Kd.R_alloc | apply Kd.R_drewN | apply Kd.R_drew)); exact HO203.out))) below_sizeA); replace HO199 := Aside0.mk (Kd.N_elder' (by (with_reducible repeat (first | apply Kd.N_alloc | apply Kd.N_drewN | apply Kd.N_drew)); exact HO199.out) (Kd.R_base ho0) hb); replace HO203 := Aside0.mk (Kd.R_elder' (by (with_reducible repeat (first | apply Kd.R_alloc | apply Kd.R_drewN | apply Kd.R_drew)); exact HO203.out) (Kd.R_base ho0) hb); replace BK193 := Aside0.mk (blk_keepA BK193.out hb); replace BK200 := Aside0.mk (blk_keepA BK200.out hb); replace HB := Aside0.mk (below_stepA hb); (try clear hb); (try clear ho0)))
  go_ret
  exact ⟨by first | rfl | (simp [errW_none, errW_some] <;> rfl) | (simp [*, errW_none, errW_some] <;> rfl), belowA⟩

def erratalaw20_few.l0 : Nat → Int → List (S95) → List (S44) → Option (Bool)
  | 0, _, _, _ => none
  | k + 1, x3, x217000, x217001 => if x3 < (x217001.length : Int) then (if 0 ≤ x3 then (if (((rd_T44 x217001 x3).f1).length : Int) > 5 then (some false) else (if (((rd_T44 x217001 x3).f15).length : Int) > 20 then (some false) else (if (((rd_T44 x217001 x3).f14).length : Int) > 20 then (some false) else (erratalaw20_few.l0 k (wrap64 (x3 + 1)) x217000 x217001)))) else (none)) else (some (decide ((x217001.length : Int) ≤ 50)))
def erratalaw20_few.f (k : Nat) (l0_0 : List (S95)) (l0_1 : List (S44)) : Option (Bool) := erratalaw20_few.l0 k 0 l0_0 l0_1
set_option maxHeartbeats 8000000 in
set_option maxRecDepth 100000 in
theorem erratalaw20_few.calls (k : Nat) (A0_0 : Option Addr) (c0_0 : Nat) (l0_0 : List (S95)) (A0_1 : Option Addr) (c0_1 : Nat) (l0_1 : List (S44)) (r : Bool) (w : World) (hr0_0 : Kd.C k95 w A0_0 l0_0.length l0_0) (hc0_0 : l0_0.length ≤ c0_0) (hr0_1 : Kd.C k44 w A0_1 l0_1.length l0_1) (hc0_1 : l0_1.length ≤ c0_1) (h : erratalaw20_few.f k l0_0 l0_1 = some r) :
    Calls Try.prog 8 #[.agg #[.slice A0_0 l0_0.length c0_0, .slice A0_1 l0_1.length c0_1]] w fun e w' => e = .returned (.bool r) ∧ Below w.heap.size w w' := by
 have hu25 := Try.underlying25
 have hu44 := Try.underlying44
 have HR0_0 := Aside0.mk hr0_0
 have HC0_0 := Aside0.mk hc0_0
 clear hr0_0 hc0_0
 have HR0_1 := Aside0.mk hr0_1
 have HC0_1 := Aside0.mk hc0_1
 clear hr0_1 hc0_1
 have HB := Aside0.mk (Below.refl w.heap.size w)
 have H : (erratalaw20_few.l0 k 0 l0_0 l0_1) = some r := h
 clear h
 have H' := Aside0.mk H
 clear H
 go_enter Try.func8, Try.ntmps8
 go_wp2_with (first | ((with_reducible refine gate_dst (N := 1) rfl ?_); (try (refine gate_guard (by rfl) ?_; dsimp only)); refine box_event ?hg (N := 1) ?hd (cs := #[.slice A0_0 l0_0.length c0_0, .slice A0_1 l0_1.length c0_1]) (t := 25) ?hr ?_; (case hd => rfl); (case hg => rfl); (case hr => first | (go_simp; done) | (go_simp; rfl)); intro gb216 hg w2 hbox hb; have BK216 := Aside0.mk (hbox); have GW216 := Aside0.mk ((by rw [hg]; exact below_sizeA : w.heap.size ≤ gb216)); have GE216 := GW216; replace HB := Aside0.mk (below_stepA hb); clear hb hbox hg))
 go_loopg [3] k (fun kq v3 w' => ∃ (x3_1 : Int), v3 = .int .i64 x3_1 ∧ Aside0 (erratalaw20_few.l0 kq x3_1 l0_0 l0_1 = some r) ∧ Aside0 (kq ≤ k) ∧ Aside0 (w'.heap[gb216]? = some (.cells #[(.slice A0_0 l0_0.length c0_0), (.slice A0_1 l0_1.length c0_1)] 25 (0, 0))) ∧ Aside0 (Below w.heap.size w w'))
 case atStart => exact ⟨(0), (by first | rfl | (simp; done) | (simp [*]; done)), H', ⟨Nat.le_refl _⟩, ⟨blk_move BK216.out⟩, ⟨by repeat (first | (with_reducible first | exact HB.out | apply below_alloc | apply pw_below_drewN | apply below_drew1 | refine below_set ?_ GE216.out) | exact HB.out)⟩⟩
 case round =>
  clear H'
  try clear p2
  obtain ⟨x3_1, rfl, HA, HK1, BK216, HB⟩ := hrel
  cases gk with
  | zero => exact absurd HA.out (by simp [erratalaw20_few.l0])
  | succ k1 =>
   have H := HA.out
   clear HA
   simp only [erratalaw20_few.l0] at H
   by_cases c3 : x3_1 < (l0_1.length : Int)
   ·
    rw [if_pos c3] at H
    have c3b0 : decide (x3_1 < (l0_1.length : Int)) = true := decide_eq_true c3
    clear c3
    by_cases c4 : 0 ≤ x3_1
    case neg => rw [if_neg c4] at H; exact absurd H (by simp)
    rw [if_pos c4] at H
    have c4b0 : decide (0 ≤ x3_1) = true := decide_eq_true c4
    clear c4
    by_cases c5 : (((rd_T44 l0_1 x3_1).f1).length : Int) > 5
    ·
     rw [if_pos c5] at H
     have c5b0 : decide (5 < (((rd_T44 l0_1 x3_1).f1).length : Int)) = true := decide_eq_true c5
     have c5b1 : decide (5 < ((rd_T44 l0_1 x3_1).f1).length) = true := decide_eq_true (by omega)
     clear c5
     obtain rfl := Option.some.inj H
     have hz6 := blk2 BK216.out
     have p217 : 0 ≤ (x3_1 : Int) := odA
     have q217 : x3_1 < (l0_1.length : Int) := odA
     obtain ⟨ad217, A217_1, c217_1, A217_4, c217_4, A217_8, c217_8, A217_9, c217_9, A217_13, c217_13, A217_14, c217_14, A217_15, c217_15, e217, hx217_0, hx217_1, hx217_2, hx217_3, hx217_4, hx217_5, hx217_6, hx217_7, hx217_8, hx217_9, hx217_10, hx217_11, hx217_12, hx217_13, hx217_14, hx217_15, hl217_1, hi217_1, hl217_4, hi217_4, hl217_8, hi217_8, hl217_9, hi217_9, hl217_13, hi217_13, hl217_14, hi217_14, hl217_15, hi217_15⟩ := at_T44 HR0_1.out x3_1 p217 q217
     cases e217
     replace hx217_0 := pw_cell_below HB.out hx217_0
     replace hx217_1 := pw_cell_below HB.out hx217_1
     replace hx217_2 := pw_cell_below HB.out hx217_2
     replace hx217_3 := pw_cell_below HB.out hx217_3
     replace hx217_4 := pw_cell_below HB.out hx217_4
     replace hx217_5 := pw_cell_below HB.out hx217_5
     replace hx217_6 := pw_cell_below HB.out hx217_6
     replace hx217_7 := pw_cell_below HB.out hx217_7
     replace hx217_8 := pw_cell_below HB.out hx217_8
     replace hx217_9 := pw_cell_below HB.out hx217_9
     replace hx217_10 := pw_cell_below HB.out hx217_10
     replace hx217_11 := pw_cell_below HB.out hx217_11
     replace hx217_12 := pw_cell_below HB.out hx217_12
     replace hx217_13 := pw_cell_below HB.out hx217_13
     replace hx217_14 := pw_cell_below HB.out hx217_14
     replace hx217_15 := pw_cell_below HB.out hx217_15
     have HR217_1 := Aside0.mk hi217_1
     have HC217_1 := Aside0.mk hl217_1
     clear hi217_1 hl217_1
     have HR217_4 := Aside0.mk hi217_4
     have HC217_4 := Aside0.mk hl217_4
     clear hi217_4 hl217_4
     have HR217_8 := Aside0.mk hi217_8
     have HC217_8 := Aside0.mk hl217_8
     clear hi217_8 hl217_8
     have HR217_9 := Aside0.mk hi217_9
     have HC217_9 := Aside0.mk hl217_9
     clear hi217_9 hl217_9
     have HR217_13 := Aside0.mk hi217_13
     have HC217_13 := Aside0.mk hl217_13
     clear hi217_13 hl217_13
     have HR217_14 := Aside0.mk hi217_14
     have HC217_14 := Aside0.mk hl217_14
     clear hi217_14 hl217_14
     have HR217_15 := Aside0.mk hi217_15
     have HC217_15 := Aside0.mk hl217_15
     clear hi217_15 hl217_15
     replace p217 := eq_true p217
     replace q217 := eq_true q217
     go_wp2_with (first | ((with_reducible refine gate_dst (N := 4) rfl ?_); (try (refine gate_guard (by rfl) ?_; dsimp only)); refine box_event ?hg (N := 4) ?hd (cs := #[.int .i64 0, .slice none 0 0, .string (⟨#[]⟩ : ByteArray), .int .i64 0, .slice none 0 0, .int .i64 0, .int .i64 0, .int .i64 0, .slice none 0 0, .slice none 0 0, .int .i64 0, .int .i64 0, .int .i64 0, .slice none 0 0, .slice none 0 0, .slice none 0 0]) (t := 44) ?hr ?_; (case hd => rfl); (case hg => rfl); (case hr => first | (go_simp; done) | (go_simp; rfl)); intro gb218 hg w7 hbox hb; have BK218 := Aside0.mk (hbox); have GW218 := Aside0.mk ((by rw [hg]; exact below_sizeA : w.heap.size ≤ gb218)); have GE218 := GW218; have NB216_218 := Aside0.mk ((by rw [hg]; exact Nat.ne_of_lt (blk_ltKA BK216.out) : gb216 ≠ gb218)); have NB218_216 := Aside0.mk NB216_218.out.symm; replace BK216 := Aside0.mk (blk_keepA BK216.out hb); replace HB := Aside0.mk (below_stepA hb); clear hb hbox hg; have hnb8 := NB218_216.out; have hnc8 := NB216_218.out; have hz9 := blk16 BK218.out))
     go_ret
     exact ⟨by first | rfl | (simp [errW_none, errW_some] <;> rfl) | (simp [*, errW_none, errW_some] <;> rfl), belowA⟩
    ·
     rw [if_neg c5] at H
     have c5b0 : decide (5 < (((rd_T44 l0_1 x3_1).f1).length : Int)) = false := decide_eq_false c5
     have c5b1 : decide (5 < ((rd_T44 l0_1 x3_1).f1).length) = false := decide_eq_false (by omega)
     clear c5
     by_cases c10 : (((rd_T44 l0_1 x3_1).f15).length : Int) > 20
     ·
      rw [if_pos c10] at H
      have c10b0 : decide (20 < (((rd_T44 l0_1 x3_1).f15).length : Int)) = true := decide_eq_true c10
      have c10b1 : decide (20 < ((rd_T44 l0_1 x3_1).f15).length) = true := decide_eq_true (by omega)
      clear c10
      obtain rfl := Option.some.inj H
      have hz11 := blk2 BK216.out
      have p217 : 0 ≤ (x3_1 : Int) := odA
      have q217 : x3_1 < (l0_1.length : Int) := odA
      obtain ⟨ad217, A217_1, c217_1, A217_4, c217_4, A217_8, c217_8, A217_9, c217_9, A217_13, c217_13, A217_14, c217_14, A217_15, c217_15, e217, hx217_0, hx217_1, hx217_2, hx217_3, hx217_4, hx217_5, hx217_6, hx217_7, hx217_8, hx217_9, hx217_10, hx217_11, hx217_12, hx217_13, hx217_14, hx217_15, hl217_1, hi217_1, hl217_4, hi217_4, hl217_8, hi217_8, hl217_9, hi217_9, hl217_13, hi217_13, hl217_14, hi217_14, hl217_15, hi217_15⟩ := at_T44 HR0_1.out x3_1 p217 q217
      cases e217
      replace hx217_0 := pw_cell_below HB.out hx217_0
      replace hx217_1 := pw_cell_below HB.out hx217_1
      replace hx217_2 := pw_cell_below HB.out hx217_2
      replace hx217_3 := pw_cell_below HB.out hx217_3
      replace hx217_4 := pw_cell_below HB.out hx217_4
      replace hx217_5 := pw_cell_below HB.out hx217_5
      replace hx217_6 := pw_cell_below HB.out hx217_6
      replace hx217_7 := pw_cell_below HB.out hx217_7
      replace hx217_8 := pw_cell_below HB.out hx217_8
      replace hx217_9 := pw_cell_below HB.out hx217_9
      replace hx217_10 := pw_cell_below HB.out hx217_10
      replace hx217_11 := pw_cell_below HB.out hx217_11
      replace hx217_12 := pw_cell_below HB.out hx217_12
      replace hx217_13 := pw_cell_below HB.out hx217_13
      replace hx217_14 := pw_cell_below HB.out hx217_14
      replace hx217_15 := pw_cell_below HB.out hx217_15
      have HR217_1 := Aside0.mk hi217_1
      have HC217_1 := Aside0.mk hl217_1
      clear hi217_1 hl217_1
      have HR217_4 := Aside0.mk hi217_4
      have HC217_4 := Aside0.mk hl217_4
      clear hi217_4 hl217_4
      have HR217_8 := Aside0.mk hi217_8
      have HC217_8 := Aside0.mk hl217_8
      clear hi217_8 hl217_8
      have HR217_9 := Aside0.mk hi217_9
      have HC217_9 := Aside0.mk hl217_9
      clear hi217_9 hl217_9
      have HR217_13 := Aside0.mk hi217_13
      have HC217_13 := Aside0.mk hl217_13
      clear hi217_13 hl217_13
      have HR217_14 := Aside0.mk hi217_14
      have HC217_14 := Aside0.mk hl217_14
      clear hi217_14 hl217_14
      have HR217_15 := Aside0.mk hi217_15
      have HC217_15 := Aside0.mk hl217_15
      clear hi217_15 hl217_15
      replace p217 := eq_true p217
      replace q217 := eq_true q217
      go_wp2_with (first | ((with_reducible refine gate_dst (N := 4) rfl ?_); (try (refine gate_guard (by rfl) ?_; dsimp only)); refine box_event ?hg (N := 4) ?hd (cs := #[.int .i64 0, .slice none 0 0, .string (⟨#[]⟩ : ByteArray), .int .i64 0, .slice none 0 0, .int .i64 0, .int .i64 0, .int .i64 0, .slice none 0 0, .slice none 0 0, .int .i64 0, .int .i64 0, .int .i64 0, .slice none 0 0, .slice none 0 0, .slice none 0 0]) (t := 44) ?hr ?_; (case hd => rfl); (case hg => rfl); (case hr => first | (go_simp; done) | (go_simp; rfl)); intro gb218 hg w12 hbox hb; have BK218 := Aside0.mk (hbox); have GW218 := Aside0.mk ((by rw [hg]; exact below_sizeA : w.heap.size ≤ gb218)); have GE218 := GW218; have NB216_218 := Aside0.mk ((by rw [hg]; exact Nat.ne_of_lt (blk_ltKA BK216.out) : gb216 ≠ gb218)); have NB218_216 := Aside0.mk NB216_218.out.symm; replace BK216 := Aside0.mk (blk_keepA BK216.out hb); replace HB := Aside0.mk (below_stepA hb); clear hb hbox hg; have hnb13 := NB218_216.out; have hnc13 := NB216_218.out; have hz14 := blk16 BK218.out))
      go_ret
      exact ⟨by first | rfl | (simp [errW_none, errW_some] <;> rfl) | (simp [*, errW_none, errW_some] <;> rfl), belowA⟩
     ·
      rw [if_neg c10] at H
      have c10b0 : decide (20 < (((rd_T44 l0_1 x3_1).f15).length : Int)) = false := decide_eq_false c10
      have c10b1 : decide (20 < ((rd_T44 l0_1 x3_1).f15).length) = false := decide_eq_false (by omega)
      clear c10
      by_cases c15 : (((rd_T44 l0_1 x3_1).f14).length : Int) > 20
      ·
       rw [if_pos c15] at H
       have c15b0 : decide (20 < (((rd_T44 l0_1 x3_1).f14).length : Int)) = true := decide_eq_true c15
       have c15b1 : decide (20 < ((rd_T44 l0_1 x3_1).f14).length) = true := decide_eq_true (by omega)
       clear c15
       obtain rfl := Option.some.inj H
       have hz16 := blk2 BK216.out
       have p217 : 0 ≤ (x3_1 : Int) := odA
       have q217 : x3_1 < (l0_1.length : Int) := odA
       obtain ⟨ad217, A217_1, c217_1, A217_4, c217_4, A217_8, c217_8, A217_9, c217_9, A217_13, c217_13, A217_14, c217_14, A217_15, c217_15, e217, hx217_0, hx217_1, hx217_2, hx217_3, hx217_4, hx217_5, hx217_6, hx217_7, hx217_8, hx217_9, hx217_10, hx217_11, hx217_12, hx217_13, hx217_14, hx217_15, hl217_1, hi217_1, hl217_4, hi217_4, hl217_8, hi217_8, hl217_9, hi217_9, hl217_13, hi217_13, hl217_14, hi217_14, hl217_15, hi217_15⟩ := at_T44 HR0_1.out x3_1 p217 q217
       cases e217
       replace hx217_0 := pw_cell_below HB.out hx217_0
       replace hx217_1 := pw_cell_below HB.out hx217_1
       replace hx217_2 := pw_cell_below HB.out hx217_2
       replace hx217_3 := pw_cell_below HB.out hx217_3
       replace hx217_4 := pw_cell_below HB.out hx217_4
       replace hx217_5 := pw_cell_below HB.out hx217_5
       replace hx217_6 := pw_cell_below HB.out hx217_6
       replace hx217_7 := pw_cell_below HB.out hx217_7
       replace hx217_8 := pw_cell_below HB.out hx217_8
       replace hx217_9 := pw_cell_below HB.out hx217_9
       replace hx217_10 := pw_cell_below HB.out hx217_10
       replace hx217_11 := pw_cell_below HB.out hx217_11
       replace hx217_12 := pw_cell_below HB.out hx217_12
       replace hx217_13 := pw_cell_below HB.out hx217_13
       replace hx217_14 := pw_cell_below HB.out hx217_14
       replace hx217_15 := pw_cell_below HB.out hx217_15
       have HR217_1 := Aside0.mk hi217_1
       have HC217_1 := Aside0.mk hl217_1
       clear hi217_1 hl217_1
       have HR217_4 := Aside0.mk hi217_4
       have HC217_4 := Aside0.mk hl217_4
       clear hi217_4 hl217_4
       have HR217_8 := Aside0.mk hi217_8
       have HC217_8 := Aside0.mk hl217_8
       clear hi217_8 hl217_8
       have HR217_9 := Aside0.mk hi217_9
       have HC217_9 := Aside0.mk hl217_9
       clear hi217_9 hl217_9
       have HR217_13 := Aside0.mk hi217_13
       have HC217_13 := Aside0.mk hl217_13
       clear hi217_13 hl217_13
       have HR217_14 := Aside0.mk hi217_14
       have HC217_14 := Aside0.mk hl217_14
       clear hi217_14 hl217_14
       have HR217_15 := Aside0.mk hi217_15
       have HC217_15 := Aside0.mk hl217_15
       clear hi217_15 hl217_15
       replace p217 := eq_true p217
       replace q217 := eq_true q217
       go_wp2_with (first | ((with_reducible refine gate_dst (N := 4) rfl ?_); (try (refine gate_guard (by rfl) ?_; dsimp only)); refine box_event ?hg (N := 4) ?hd (cs := #[.int .i64 0, .slice none 0 0, .string (⟨#[]⟩ : ByteArray), .int .i64 0, .slice none 0 0, .int .i64 0, .int .i64 0, .int .i64 0, .slice none 0 0, .slice none 0 0, .int .i64 0, .int .i64 0, .int .i64 0, .slice none 0 0, .slice none 0 0, .slice none 0 0]) (t := 44) ?hr ?_; (case hd => rfl); (case hg => rfl); (case hr => first | (go_simp; done) | (go_simp; rfl)); intro gb218 hg w17 hbox hb; have BK218 := Aside0.mk (hbox); have GW218 := Aside0.mk ((by rw [hg]; exact below_sizeA : w.heap.size ≤ gb218)); have GE218 := GW218; have NB216_218 := Aside0.mk ((by rw [hg]; exact Nat.ne_of_lt (blk_ltKA BK216.out) : gb216 ≠ gb218)); have NB218_216 := Aside0.mk NB216_218.out.symm; replace BK216 := Aside0.mk (blk_keepA BK216.out hb); replace HB := Aside0.mk (below_stepA hb); clear hb hbox hg; have hnb18 := NB218_216.out; have hnc18 := NB216_218.out; have hz19 := blk16 BK218.out))
       go_ret
       exact ⟨by first | rfl | (simp [errW_none, errW_some] <;> rfl) | (simp [*, errW_none, errW_some] <;> rfl), belowA⟩
      ·
       rw [if_neg c15] at H
       have c15b0 : decide (20 < (((rd_T44 l0_1 x3_1).f14).length : Int)) = false := decide_eq_false c15
       have c15b1 : decide (20 < ((rd_T44 l0_1 x3_1).f14).length) = false := decide_eq_false (by omega)
       clear c15
       have H' := Aside0.mk H
       clear H
       have hz20 := blk2 BK216.out
       have p217 : 0 ≤ (x3_1 : Int) := odA
       have q217 : x3_1 < (l0_1.length : Int) := odA
       obtain ⟨ad217, A217_1, c217_1, A217_4, c217_4, A217_8, c217_8, A217_9, c217_9, A217_13, c217_13, A217_14, c217_14, A217_15, c217_15, e217, hx217_0, hx217_1, hx217_2, hx217_3, hx217_4, hx217_5, hx217_6, hx217_7, hx217_8, hx217_9, hx217_10, hx217_11, hx217_12, hx217_13, hx217_14, hx217_15, hl217_1, hi217_1, hl217_4, hi217_4, hl217_8, hi217_8, hl217_9, hi217_9, hl217_13, hi217_13, hl217_14, hi217_14, hl217_15, hi217_15⟩ := at_T44 HR0_1.out x3_1 p217 q217
       cases e217
       replace hx217_0 := pw_cell_below HB.out hx217_0
       replace hx217_1 := pw_cell_below HB.out hx217_1
       replace hx217_2 := pw_cell_below HB.out hx217_2
       replace hx217_3 := pw_cell_below HB.out hx217_3
       replace hx217_4 := pw_cell_below HB.out hx217_4
       replace hx217_5 := pw_cell_below HB.out hx217_5
       replace hx217_6 := pw_cell_below HB.out hx217_6
       replace hx217_7 := pw_cell_below HB.out hx217_7
       replace hx217_8 := pw_cell_below HB.out hx217_8
       replace hx217_9 := pw_cell_below HB.out hx217_9
       replace hx217_10 := pw_cell_below HB.out hx217_10
       replace hx217_11 := pw_cell_below HB.out hx217_11
       replace hx217_12 := pw_cell_below HB.out hx217_12
       replace hx217_13 := pw_cell_below HB.out hx217_13
       replace hx217_14 := pw_cell_below HB.out hx217_14
       replace hx217_15 := pw_cell_below HB.out hx217_15
       have HR217_1 := Aside0.mk hi217_1
       have HC217_1 := Aside0.mk hl217_1
       clear hi217_1 hl217_1
       have HR217_4 := Aside0.mk hi217_4
       have HC217_4 := Aside0.mk hl217_4
       clear hi217_4 hl217_4
       have HR217_8 := Aside0.mk hi217_8
       have HC217_8 := Aside0.mk hl217_8
       clear hi217_8 hl217_8
       have HR217_9 := Aside0.mk hi217_9
       have HC217_9 := Aside0.mk hl217_9
       clear hi217_9 hl217_9
       have HR217_13 := Aside0.mk hi217_13
       have HC217_13 := Aside0.mk hl217_13
       clear hi217_13 hl217_13
       have HR217_14 := Aside0.mk hi217_14
       have HC217_14 := Aside0.mk hl217_14
       clear hi217_14 hl217_14
       have HR217_15 := Aside0.mk hi217_15
       have HC217_15 := Aside0.mk hl217_15
       clear hi217_15 hl217_15
       replace p217 := eq_true p217
       replace q217 := eq_true q217
       go_wp2_with (first | ((with_reducible refine gate_dst (N := 4) rfl ?_); (try (refine gate_guard (by rfl) ?_; dsimp only)); refine box_event ?hg (N := 4) ?hd (cs := #[.int .i64 0, .slice none 0 0, .string (⟨#[]⟩ : ByteArray), .int .i64 0, .slice none 0 0, .int .i64 0, .int .i64 0, .int .i64 0, .slice none 0 0, .slice none 0 0, .int .i64 0, .int .i64 0, .int .i64 0, .slice none 0 0, .slice none 0 0, .slice none 0 0]) (t := 44) ?hr ?_; (case hd => rfl); (case hg => rfl); (case hr => first | (go_simp; done) | (go_simp; rfl)); intro gb218 hg w21 hbox hb; have BK218 := Aside0.mk (hbox); have GW218 := Aside0.mk ((by rw [hg]; exact below_sizeA : w.heap.size ≤ gb218)); have GE218 := GW218; have NB216_218 := Aside0.mk ((by rw [hg]; exact Nat.ne_of_lt (blk_ltKA BK216.out) : gb216 ≠ gb218)); have NB218_216 := Aside0.mk NB216_218.out.symm; replace BK216 := Aside0.mk (blk_keepA BK216.out hb); replace HB := Aside0.mk (below_stepA hb); clear hb hbox hg; have hnb22 := NB218_216.out; have hnc22 := NB216_218.out; have hz23 := blk16 BK218.out))
       go_roundg k1
       case measure => have := HK1.out; omega
       case rel => exact ⟨(wrap64 (x3_1 + 1)), (by first | rfl | (simp; done) | (simp [*]; done)), H', ⟨by have := HK1.out; omega⟩, ⟨blk_move BK216.out⟩, ⟨by repeat (first | (with_reducible first | exact HB.out | apply below_alloc | apply pw_below_drewN | apply below_drew1 | refine below_set ?_ GE216.out | refine below_set ?_ GE218.out) | exact HB.out)⟩⟩
   ·
    rw [if_neg c3] at H
    have c3b0 : decide (x3_1 < (l0_1.length : Int)) = false := decide_eq_false c3
    clear c3
    obtain rfl := Option.some.inj H
    have hz24 := blk2 BK216.out
    go_wp2
    go_ret
    exact ⟨by first | rfl | (simp [errW_none, errW_some] <;> rfl) | (simp [*, errW_none, errW_some] <;> rfl), belowA⟩

end Go.Proofs.Yteoljddobfnfiaa.PB
end
section
namespace Go.Proofs.Yteoljddobfnfiaa.Pure
open Go.RowKit Go.Proofs.YteoljddobfnfiaaW.PrintWords Go.Proofs.YteoljddobfnfiaaW.PrintLast Go.Proofs.YteoljddobfnfiaaW.PrintMore Go.Proofs.Yteoljddobfnfiaa.PB
set_option linter.unusedVariables false
set_option linter.unusedSimpArgs false

theorem small_ev : Ev (fun k => erratalaw20_small.f k) true := Ev.of (fun k => erratalaw20_small.mono k) (k := 12) (by kernel_rfl)

def fewN (n : S44) : Bool := decide ((n.f1.length : Int) ≤ 5) && (decide ((n.f15.length : Int) ≤ 20) && decide ((n.f14.length : Int) ≤ 20))
def few (l : List S44) : Bool := l.all fewN && decide ((l.length : Int) ≤ 50)
theorem few_l0 (l : List S44) (F : List S95) (hl : l.length ≤ 9223372036854775807) : ∀ d i : Nat, i + d = l.length → Ev (fun k => erratalaw20_few.l0 k (i : Int) F l) ((l.drop i).all fewN && decide ((l.length : Int) ≤ 50))
  | 0, i, hi => by
    refine Ev.step (f := fun _ => some (decide ((l.length : Int) ≤ 50))) (fun k => ?_) (by rw [List.drop_of_length_le (by omega)]; exact Ev.now _)
    simp only [erratalaw20_few.l0]
    rw [if_neg (by omega)]
  | d + 1, i, hi => by
    have hil : i < l.length := by omega
    have e : l.drop i = l[i] :: l.drop (i + 1) := List.drop_eq_getElem_cons hil
    have ih := few_l0 l F hl d (i + 1) (by omega)
    rw [e, List.all_cons]
    by_cases h1 : (l[i].f1.length : Int) ≤ 5
    · by_cases h2 : (l[i].f15.length : Int) ≤ 20
      · by_cases h3 : (l[i].f14.length : Int) ≤ 20
        · refine Ev.step (fun k => ?_) (by rw [show fewN l[i] = true by unfold fewN; simp [h1, h2, h3], Bool.true_and]; exact ih)
          simp only [erratalaw20_few.l0]
          rw [if_pos (by omega), if_pos (by omega), rd44_at hil, if_neg (by omega), if_neg (by omega), if_neg (by omega), wrap_id (by omega) (by omega), cast_succ]
        · refine Ev.step (fun k => ?_) (by rw [show fewN l[i] = false by unfold fewN; simp [h3], Bool.false_and, Bool.false_and]; exact Ev.now _)
          simp only [erratalaw20_few.l0]
          rw [if_pos (by omega), if_pos (by omega), rd44_at hil, if_neg (by omega), if_neg (by omega), if_pos (by omega)]
      · refine Ev.step (fun k => ?_) (by rw [show fewN l[i] = false by unfold fewN; simp [h2], Bool.false_and, Bool.false_and]; exact Ev.now _)
        simp only [erratalaw20_few.l0]
        rw [if_pos (by omega), if_pos (by omega), rd44_at hil, if_neg (by omega), if_pos (by omega)]
    · refine Ev.step (fun k => ?_) (by rw [show fewN l[i] = false by unfold fewN; simp [h1], Bool.false_and, Bool.false_and]; exact Ev.now _)
      simp only [erratalaw20_few.l0]
      rw [if_pos (by omega), if_pos (by omega), rd44_at hil, if_pos (by omega)]
theorem few_ev (l : List S44) (F : List S95) (hl : l.length ≤ 9223372036854775807) : Ev (fun k => erratalaw20_few.f k F l) (few l) := by
  have := few_l0 l F hl l.length 0 (by omega)
  rw [List.drop_zero] at this
  exact this

theorem backOf_congr {b1 b2 : List S37} : ∀ (l : List Int) (s : Int), (∀ x ∈ l, rd_T37 b1 x = rd_T37 b2 x) → backOf b1 l s = backOf b2 l s
  | [], _, _ => rfl
  | x :: l, s, h => by
    have ih := backOf_congr l (mx s (rd_T37 b2 x).f0) (fun y hy => h y (List.mem_cons_of_mem _ hy))
    unfold backOf at ih ⊢
    rw [List.foldl_cons, List.foldl_cons, h x List.mem_cons_self, ih]
theorem foreOf_congr {b1 b2 : List S37} : ∀ (l : List Int) (s : Int), (∀ x ∈ l, rd_T37 b1 x = rd_T37 b2 x) → foreOf b1 l s = foreOf b2 l s
  | [], _, _ => rfl
  | x :: l, s, h => by
    have ih := foreOf_congr l (mx s (rd_T37 b2 x).f1) (fun y hy => h y (List.mem_cons_of_mem _ hy))
    unfold foreOf at ih ⊢
    rw [List.foldl_cons, List.foldl_cons, h x List.mem_cons_self, ih]
theorem stOf_congr {b1 b2 : List S37} {c5 o : Int} : ∀ (l : List Int) (s : Int), (∀ x ∈ l, rd_T37 b1 x = rd_T37 b2 x) → stOf b1 c5 o l s = stOf b2 c5 o l s
  | [], _, _ => rfl
  | x :: l, s, h => by
    have ih := stOf_congr (c5 := c5) (o := o) l (mn (s + mn ((rd_T37 b2 x).f2 * (c5 + (rd_T37 b2 x).f1 + o)) 1099511627776) 1099511627776) (fun y hy => h y (List.mem_cons_of_mem _ hy))
    unfold stOf at ih ⊢
    rw [List.foldl_cons, List.foldl_cons, h x List.mem_cons_self, ih]
theorem boundOf_congr {i c0 c4 c5 : Int} {b1 b2 : List S37} {n : S44} (hn : okNode i n = true) (h : ∀ x, 0 ≤ x → x < i → rd_T37 b1 x = rd_T37 b2 x) : boundOf b1 c0 c4 c5 n = boundOf b2 c0 c4 c5 n := by
  obtain ⟨ho, hi, hl⟩ := node_ins hn
  have hm : ∀ x ∈ n.f1, rd_T37 b1 x = rd_T37 b2 x := fun x hx => h x (okIn_mem hl hx).1 (okIn_mem hl hx).2
  have hr : rateOf b1 c0 c4 n = rateOf b2 c0 c4 n := by
    unfold rateOf
    by_cases e0 : n.f0 = 0
    · rw [if_pos e0, if_pos e0]
    rw [if_neg e0, if_neg e0]
    have a0 := in_at hl (ins1 hi e0)
    have q0 : rd_T37 b1 (rd n.f1 0) = rd_T37 b2 (rd n.f1 0) := h _ a0.1 a0.2
    rw [q0]
    by_cases e3 : n.f0 = 3
    · have a1 := in_at hl (ins2 hi (by omega))
      have q1 : rd_T37 b1 (rd n.f1 1) = rd_T37 b2 (rd n.f1 1) := h _ a1.1 a1.2
      rw [q1]
    rw [if_neg e3, if_neg e3]
    by_cases e4 : n.f0 = 4 ∨ n.f0 = 5
    · rw [if_pos e4, if_pos e4]
    rw [if_neg e4, if_neg e4]
    by_cases e6 : n.f0 = 6
    · have a1 := in_at hl (ins2 hi (by omega))
      have q1 : rd_T37 b1 (rd n.f1 1) = rd_T37 b2 (rd n.f1 1) := h _ a1.1 a1.2
      rw [q1]
    rw [if_neg e6, if_neg e6]
  unfold boundOf
  rw [backOf_congr _ _ hm, foreOf_congr _ _ hm, stOf_congr _ _ hm, hr]

theorem ana_acc {c0 c4 c5 : Int} : ∀ (r : List S44) (i : Int) (bs R : List S37) (e : Int), ana c0 c4 c5 i bs r = (R, e, 0) →
    (∃ t, R = bs ++ t ∧ t.length = r.length) ∧ e = -1 ∧ ∀ (j : Nat) (hj : j < r.length), bdd r[j] = true ∧ (boundOf (R.take (bs.length + j)) c0 c4 c5 r[j]).f2 < 1099511627776 ∧ (boundOf (R.take (bs.length + j)) c0 c4 c5 r[j]).f3 < 1099511627776 ∧ R[bs.length + j]? = some (boundOf (R.take (bs.length + j)) c0 c4 c5 r[j])
  | [], i, bs, R, e, h => by
    simp only [ana, Prod.mk.injEq] at h
    exact ⟨⟨[], by rw [List.append_nil]; exact h.1.symm, rfl⟩, h.2.1.symm, fun j hj => absurd hj (Nat.not_lt_zero j)⟩
  | n :: r, i, bs, R, e, h => by
    rw [ana] at h
    by_cases hb : bdd n = true
    · rw [if_pos hb] at h
      by_cases hm : 1099511627776 ≤ (boundOf bs c0 c4 c5 n).f2 ∨ 1099511627776 ≤ (boundOf bs c0 c4 c5 n).f3
      · rw [if_pos hm] at h
        simp at h
      rw [if_neg hm] at h
      obtain ⟨⟨t, ht, hlen⟩, he, hrest⟩ := ana_acc r (i + 1) (bs ++ [boundOf bs c0 c4 c5 n]) R e h
      refine ⟨⟨boundOf bs c0 c4 c5 n :: t, by rw [ht, List.append_assoc]; rfl, by rw [List.length_cons, List.length_cons, hlen]⟩, he, fun j hj => ?_⟩
      cases j with
      | zero =>
        have e1 : R.take bs.length = bs := by rw [ht, List.append_assoc]; simp
        have e2 : R[bs.length]? = some (boundOf bs c0 c4 c5 n) := by rw [ht, List.append_assoc]; simp
        simp only [Nat.add_zero, List.getElem_cons_zero]
        rw [e1, e2]
        exact ⟨hb, by omega, by omega, rfl⟩
      | succ j =>
        have := hrest j (by simpa using hj)
        rw [List.length_append, List.length_singleton, show bs.length + 1 + j = bs.length + (j + 1) by omega] at this
        simpa using this
    · rw [if_neg hb] at h
      simp at h
theorem okFrom_at : ∀ (l : List S44) (i : Int), okFrom i l = true → ∀ (j : Nat) (hj : j < l.length), okNode (i + j) l[j] = true
  | [], _, _, j, hj => absurd hj (Nat.not_lt_zero j)
  | n :: l, i, h, j, hj => by
    rw [okFrom] at h
    obtain ⟨h1, h2⟩ := Bool.and_eq_true_iff.1 h
    cases j with
    | zero => simpa using h1
    | succ j =>
      have := okFrom_at l (i + 1) h2 j (by simpa using hj)
      rw [show i + ((j + 1 : Nat) : Int) = i + 1 + (j : Int) by omega]
      simpa using this
structure Acc (l : List S44) (c0 c1 c2 c3 c4 c5 : Int) (bs : List S37) : Prop where
  right : rightC c0 c1 c2 c3 c4 c5
  well : well l = true
  len : bs.length = l.length
  node : ∀ (j : Nat) (hj : j < l.length), okNode (j : Int) l[j] = true ∧ bdd l[j] = true ∧ rd_T37 bs (j : Int) = boundOf bs c0 c4 c5 l[j] ∧ okB ((j : Int) + 1) (rd_T37 bs (j : Int)) ∧ (rd_T37 bs (j : Int)).f2 < 1099511627776 ∧ (rd_T37 bs (j : Int)).f3 < 1099511627776
  pre : pre (l.length : Int) bs
theorem rd37_take {bs : List S37} {j : Nat} (hj : j ≤ bs.length) {x : Int} (h0 : 0 ≤ x) (h1 : x < (j : Int)) : rd_T37 (bs.take j) x = rd_T37 bs x := by
  have e : ((x.toNat : Nat) : Int) = x := Int.toNat_of_nonneg h0
  rw [← e, rd37_at (by rw [List.length_take]; omega), rd37_at (by omega), List.getElem_take]
theorem analyze_acc {l : List S44} {c0 c1 c2 c3 c4 c5 : Int} {bs : List S37} {e : Int} (h : analyze l c0 c1 c2 c3 c4 c5 = (bs, e, 0)) : Acc l c0 c1 c2 c3 c4 c5 bs := by
  unfold analyze at h
  by_cases hc : rightC c0 c1 c2 c3 c4 c5 ∧ well l = true
  · rw [if_pos hc] at h
    obtain ⟨⟨t, ht, hlen⟩, he, hn⟩ := ana_acc l 0 [] bs e h
    have hR : bs.length = l.length := by rw [ht]; simpa using hlen
    have hw := well_len hc.2
    have hr := hc.1
    unfold rightC at hr
    have hp : ∀ j : Nat, j ≤ l.length → Pure.pre (j : Int) (bs.take j) := by
      intro j
      induction j with
      | zero => exact fun _ => ⟨rfl, fun b hb => by simp at hb⟩
      | succ j ih =>
        intro hj
        have hjl : j < l.length := by omega
        obtain ⟨k1, k2, k3, k4⟩ := hn j hjl
        simp only [List.length_nil, Nat.zero_add] at k4
        have hok := okFrom_at l 0 hw.1 j hjl
        rw [Int.zero_add] at hok
        have e1 : bs.take (j + 1) = bs.take j ++ [boundOf (bs.take j) c0 c4 c5 l[j]] := by
          rw [List.take_add_one, k4]
          rfl
        rw [e1, ← cast_succ]
        exact pre_snoc (ih (by omega)) (boundOf_ok (by omega) (ih (by omega)) hok k1 (by omega) (by omega) (by omega))
    refine ⟨hc.1, hc.2, hR, fun j hj => ?_, by have := hp l.length (Nat.le_refl _); rwa [List.take_of_length_le (by omega)] at this⟩
    obtain ⟨k1, k2, k3, k4⟩ := hn j hj
    simp only [List.length_nil, Nat.zero_add] at k2 k3 k4
    have hok := okFrom_at l 0 hw.1 j hj
    rw [Int.zero_add] at hok
    have e2 : boundOf (bs.take j) c0 c4 c5 l[j] = boundOf bs c0 c4 c5 l[j] := boundOf_congr hok (fun x h0 h1 => rd37_take (by omega) h0 h1)
    have e3 : rd_T37 bs (j : Int) = boundOf bs c0 c4 c5 l[j] := by
      rw [rd37_at (by omega), ← e2]
      rw [List.getElem?_eq_getElem (by omega)] at k4
      exact Option.some.inj k4
    rw [e3, ← e2]
    exact ⟨hok, k1, rfl, boundOf_ok (by omega) (hp j (by omega)) hok k1 (by omega) (by omega) (by omega), k2, k3⟩
  · rw [if_neg hc] at h
    simp at h
end Go.Proofs.Yteoljddobfnfiaa.Pure
end
section
namespace Go.Proofs.Yteoljddobfnfiaa.PB
open Go.RowKit Go.Proofs.YteoljddobfnfiaaW.PrintWords Go.Proofs.YteoljddobfnfiaaW.PrintLast Go.Proofs.YteoljddobfnfiaaW.PrintMore
attribute [local go_sem] max2_int min2_int max_two min_two max_three min_three max_four min_four
attribute [local go_sem ↓ high] Go.Proofs.Yteoljddobfnfiaa.My.ld44_eq Go.Proofs.Yteoljddobfnfiaa.My.st44_eq Go.Proofs.Yteoljddobfnfiaa.My.ld27_eq Go.Proofs.Yteoljddobfnfiaa.My.st27_eq Go.Proofs.Yteoljddobfnfiaa.My.ld37_eq Go.Proofs.Yteoljddobfnfiaa.My.st37_eq Go.Proofs.Yteoljddobfnfiaa.My.ld65_eq Go.Proofs.Yteoljddobfnfiaa.My.st65_eq
attribute [local go_sem high] Go.Proofs.Yteoljddobfnfiaa.My.ld44_run Go.Proofs.Yteoljddobfnfiaa.My.st44_run Go.Proofs.Yteoljddobfnfiaa.My.ld27_run Go.Proofs.Yteoljddobfnfiaa.My.st27_run Go.Proofs.Yteoljddobfnfiaa.My.ld37_run Go.Proofs.Yteoljddobfnfiaa.My.st37_run Go.Proofs.Yteoljddobfnfiaa.My.ld65_run Go.Proofs.Yteoljddobfnfiaa.My.st65_run
open Go.Proofs.Yteoljddobfnfiaa.My
attribute [local go_sem] cell_map run_store_fnV one_int one_bool one_string one_slice one_fnV
set_option linter.unusedVariables false
set_option linter.unusedSimpArgs false

def errataref20_inputs.f (a0 : Int) : Option (Int) := if a0 = 0 then (some 0) else (if a0 = 3 then (some 2) else (if a0 = 6 then (some 2) else (if a0 = 7 then (some 2) else (some 1))))
set_option maxHeartbeats 8000000 in
set_option maxRecDepth 100000 in
theorem errataref20_inputs.calls (a0 : Int) (r : Int) (w : World) (h : errataref20_inputs.f a0 = some r) :
    Calls Try.prog 33 #[.int .i64 a0] w fun e w' => e = .returned (.int .i64 r) ∧ Drawn0 w w' := by
 have H : (if a0 = 0 then (some 0) else (if a0 = 3 then (some 2) else (if a0 = 6 then (some 2) else (if a0 = 7 then (some 2) else (some 1))))) = some r := h
 clear h
 by_cases c2 : a0 = 0
 ·
  rw [if_pos c2] at H
  have c2b0 : (a0 == 0) = true := beq_iff_eq.mpr c2
  have c2b1 : (a0 != 0) = false := bne_eq_false_iff_eq.mpr c2
  clear c2
  obtain rfl := Option.some.inj H
  go_enter Try.func33, Try.ntmps33
  go_wp2
  go_ret
  exact ⟨by first | rfl | (simp; done) | (simp [*]; done), by repeat (first | exact Drawn0.refl _ | apply Drawn0.step)⟩
 ·
  rw [if_neg c2] at H
  have c2b0 : (a0 == 0) = false := beq_eq_false_iff_ne.mpr c2
  have c2b1 : (a0 != 0) = true := bne_iff_ne.mpr c2
  by_cases c3 : a0 = 3
  ·
   rw [if_pos c3] at H
   have c3b0 : (a0 == 3) = true := beq_iff_eq.mpr c3
   have c3b1 : (a0 != 3) = false := bne_eq_false_iff_eq.mpr c3
   clear c3
   obtain rfl := Option.some.inj H
   go_enter Try.func33, Try.ntmps33
   go_wp2
   go_ret
   exact ⟨by first | rfl | (simp; done) | (simp [*]; done), by repeat (first | exact Drawn0.refl _ | apply Drawn0.step)⟩
  ·
   rw [if_neg c3] at H
   have c3b0 : (a0 == 3) = false := beq_eq_false_iff_ne.mpr c3
   have c3b1 : (a0 != 3) = true := bne_iff_ne.mpr c3
   by_cases c4 : a0 = 6
   ·
    rw [if_pos c4] at H
    have c4b0 : (a0 == 6) = true := beq_iff_eq.mpr c4
    have c4b1 : (a0 != 6) = false := bne_eq_false_iff_eq.mpr c4
    clear c4
    obtain rfl := Option.some.inj H
    go_enter Try.func33, Try.ntmps33
    go_wp2
    go_ret
    exact ⟨by first | rfl | (simp; done) | (simp [*]; done), by repeat (first | exact Drawn0.refl _ | apply Drawn0.step)⟩
   ·
    rw [if_neg c4] at H
    have c4b0 : (a0 == 6) = false := beq_eq_false_iff_ne.mpr c4
    have c4b1 : (a0 != 6) = true := bne_iff_ne.mpr c4
    by_cases c5 : a0 = 7
    ·
     rw [if_pos c5] at H
     have c5b0 : (a0 == 7) = true := beq_iff_eq.mpr c5
     have c5b1 : (a0 != 7) = false := bne_eq_false_iff_eq.mpr c5
     clear c5
     obtain rfl := Option.some.inj H
     go_enter Try.func33, Try.ntmps33
     go_wp2
     go_ret
     exact ⟨by first | rfl | (simp; done) | (simp [*]; done), by repeat (first | exact Drawn0.refl _ | apply Drawn0.step)⟩
    ·
     rw [if_neg c5] at H
     have c5b0 : (a0 == 7) = false := beq_eq_false_iff_ne.mpr c5
     have c5b1 : (a0 != 7) = true := bne_iff_ne.mpr c5
     obtain rfl := Option.some.inj H
     go_enter Try.func33, Try.ntmps33
     go_wp2
     go_ret
     exact ⟨by first | rfl | (simp; done) | (simp [*]; done), by repeat (first | exact Drawn0.refl _ | apply Drawn0.step)⟩

end Go.Proofs.Yteoljddobfnfiaa.PB
end
section
namespace Go.Proofs.Yteoljddobfnfiaa.PB
open Go.RowKit Go.Proofs.YteoljddobfnfiaaW.PrintWords Go.Proofs.YteoljddobfnfiaaW.PrintLast Go.Proofs.YteoljddobfnfiaaW.PrintMore
attribute [local go_sem] max2_int min2_int max_two min_two max_three min_three max_four min_four
attribute [local go_sem ↓ high] Go.Proofs.Yteoljddobfnfiaa.My.ld44_eq Go.Proofs.Yteoljddobfnfiaa.My.st44_eq Go.Proofs.Yteoljddobfnfiaa.My.ld27_eq Go.Proofs.Yteoljddobfnfiaa.My.st27_eq Go.Proofs.Yteoljddobfnfiaa.My.ld37_eq Go.Proofs.Yteoljddobfnfiaa.My.st37_eq Go.Proofs.Yteoljddobfnfiaa.My.ld65_eq Go.Proofs.Yteoljddobfnfiaa.My.st65_eq
attribute [local go_sem high] Go.Proofs.Yteoljddobfnfiaa.My.ld44_run Go.Proofs.Yteoljddobfnfiaa.My.st44_run Go.Proofs.Yteoljddobfnfiaa.My.ld27_run Go.Proofs.Yteoljddobfnfiaa.My.st27_run Go.Proofs.Yteoljddobfnfiaa.My.ld37_run Go.Proofs.Yteoljddobfnfiaa.My.st37_run Go.Proofs.Yteoljddobfnfiaa.My.ld65_run Go.Proofs.Yteoljddobfnfiaa.My.st65_run
open Go.Proofs.Yteoljddobfnfiaa.My
attribute [local go_sem] cell_map run_store_fnV one_int one_bool one_string one_slice one_fnV
set_option linter.unusedVariables false
set_option linter.unusedSimpArgs false

mutual
def errataref20_Well.j0 : Nat → Bool → List (S95) → List (S44) → Option (Bool)
  | 0, _, _, _ => none
  | k + 1, x15, x358000, x358001 => if x15 = true then (some false) else (errataref20_Well.l0 k 0 x358000 x358001)
def errataref20_Well.l0 : Nat → Int → List (S95) → List (S44) → Option (Bool)
  | 0, _, _, _ => none
  | k + 1, x3, x358000, x358001 => if x3 < (x358001.length : Int) then (if 0 ≤ x3 then (if ((rd_T44 x358001 x3).f0) < 0 then (errataref20_Well.j2 k x3 true x358000 x358001 ((rd_T44 x358001 x3).f0) ((rd_T44 x358001 x3).f1) ((rd_T44 x358001 x3).f2) ((rd_T44 x358001 x3).f3) ((rd_T44 x358001 x3).f4) ((rd_T44 x358001 x3).f5) ((rd_T44 x358001 x3).f6) ((rd_T44 x358001 x3).f7) ((rd_T44 x358001 x3).f8) ((rd_T44 x358001 x3).f9) ((rd_T44 x358001 x3).f10) ((rd_T44 x358001 x3).f11) ((rd_T44 x358001 x3).f12) ((rd_T44 x358001 x3).f13) ((rd_T44 x358001 x3).f14) ((rd_T44 x358001 x3).f15)) else (if ((rd_T44 x358001 x3).f0) ≥ 9 then (errataref20_Well.j2 k x3 true x358000 x358001 ((rd_T44 x358001 x3).f0) ((rd_T44 x358001 x3).f1) ((rd_T44 x358001 x3).f2) ((rd_T44 x358001 x3).f3) ((rd_T44 x358001 x3).f4) ((rd_T44 x358001 x3).f5) ((rd_T44 x358001 x3).f6) ((rd_T44 x358001 x3).f7) ((rd_T44 x358001 x3).f8) ((rd_T44 x358001 x3).f9) ((rd_T44 x358001 x3).f10) ((rd_T44 x358001 x3).f11) ((rd_T44 x358001 x3).f12) ((rd_T44 x358001 x3).f13) ((rd_T44 x358001 x3).f14) ((rd_T44 x358001 x3).f15)) else ((errataref20_inputs.f ((rd_T44 x358001 x3).f0)).bind fun t360 => (errataref20_Well.j2 k x3 ((((rd_T44 x358001 x3).f1).length : Int) != t360) x358000 x358001 ((rd_T44 x358001 x3).f0) ((rd_T44 x358001 x3).f1) ((rd_T44 x358001 x3).f2) ((rd_T44 x358001 x3).f3) ((rd_T44 x358001 x3).f4) ((rd_T44 x358001 x3).f5) ((rd_T44 x358001 x3).f6) ((rd_T44 x358001 x3).f7) ((rd_T44 x358001 x3).f8) ((rd_T44 x358001 x3).f9) ((rd_T44 x358001 x3).f10) ((rd_T44 x358001 x3).f11) ((rd_T44 x358001 x3).f12) ((rd_T44 x358001 x3).f13) ((rd_T44 x358001 x3).f14) ((rd_T44 x358001 x3).f15))))) else (none)) else (some true)
def errataref20_Well.j2 : Nat → Int → Bool → List (S95) → List (S44) → Int → List Int → ByteArray → Int → List (S93) → Int → Int → Int → List Int → List Int → Int → Int → Int → List (S97) → List (S99) → List (S50) → Option (Bool)
  | 0, _, _, _, _, _, _, _, _, _, _, _, _, _, _, _, _, _, _, _, _ => none
  | k + 1, x3, x44, x358000, x358001, x360000, x360001, x360002, x360003, x360004, x360005, x360006, x360007, x360008, x360009, x360010, x360011, x360012, x360013, x360014, x360015 => if x44 = true then (some false) else (errataref20_Well.l1 k x3 0 x358000 x358001 x360000 x360001 x360002 x360003 x360004 x360005 x360006 x360007 x360008 x360009 x360010 x360011 x360012 x360013 x360014 x360015)
def errataref20_Well.l1 : Nat → Int → Int → List (S95) → List (S44) → Int → List Int → ByteArray → Int → List (S93) → Int → Int → Int → List Int → List Int → Int → Int → Int → List (S97) → List (S99) → List (S50) → Option (Bool)
  | 0, _, _, _, _, _, _, _, _, _, _, _, _, _, _, _, _, _, _, _, _ => none
  | k + 1, x3, x5, x358000, x358001, x360000, x360001, x360002, x360003, x360004, x360005, x360006, x360007, x360008, x360009, x360010, x360011, x360012, x360013, x360014, x360015 => if x5 < (x360001.length : Int) then (if 0 ≤ x5 then (if (rd x360001 x5) < 0 then (some false) else (if (rd x360001 x5) ≥ x3 then (some false) else (errataref20_Well.l1 k x3 (wrap64 (x5 + 1)) x358000 x358001 x360000 x360001 x360002 x360003 x360004 x360005 x360006 x360007 x360008 x360009 x360010 x360011 x360012 x360013 x360014 x360015))) else (none)) else (errataref20_Well.l0 k (wrap64 (x3 + 1)) x358000 x358001)
end
def errataref20_Well.f (k : Nat) (l0_0 : List (S95)) (l0_1 : List (S44)) : Option (Bool) := if (l0_1.length : Int) < 1 then (errataref20_Well.j0 k true l0_0 l0_1) else (errataref20_Well.j0 k (decide ((l0_1.length : Int) > 40)) l0_0 l0_1)
set_option maxHeartbeats 8000000 in
set_option maxRecDepth 100000 in
theorem errataref20_Well.calls (k : Nat) (A0_0 : Option Addr) (c0_0 : Nat) (l0_0 : List (S95)) (A0_1 : Option Addr) (c0_1 : Nat) (l0_1 : List (S44)) (r : Bool) (w : World) (hr0_0 : Kd.C k95 w A0_0 l0_0.length l0_0) (hc0_0 : l0_0.length ≤ c0_0) (hr0_1 : Kd.C k44 w A0_1 l0_1.length l0_1) (hc0_1 : l0_1.length ≤ c0_1) (h : errataref20_Well.f k l0_0 l0_1 = some r) :
    Calls Try.prog 22 #[.agg #[.slice A0_0 l0_0.length c0_0, .slice A0_1 l0_1.length c0_1]] w fun e w' => e = .returned (.bool r) ∧ Below w.heap.size w w' := by
 have hu25 := Try.underlying25
 have hu44 := Try.underlying44
 have HR0_0 := Aside0.mk hr0_0
 have HC0_0 := Aside0.mk hc0_0
 clear hr0_0 hc0_0
 have HR0_1 := Aside0.mk hr0_1
 have HC0_1 := Aside0.mk hc0_1
 clear hr0_1 hc0_1
 have HB := Aside0.mk (Below.refl w.heap.size w)
 have H : (if (l0_1.length : Int) < 1 then (errataref20_Well.j0 k true l0_0 l0_1) else (errataref20_Well.j0 k (decide ((l0_1.length : Int) > 40)) l0_0 l0_1)) = some r := h
 clear h
 have HC2 := Aside0.mk H
 clear H
 go_enter Try.func22, Try.ntmps22
 go_upto_region 1 with (first | ((with_reducible refine gate_dst (N := 1) rfl ?_); (try (refine gate_guard (by rfl) ?_; dsimp only)); refine box_event ?hg (N := 1) ?hd (cs := #[.slice A0_0 l0_0.length c0_0, .slice A0_1 l0_1.length c0_1]) (t := 25) ?hr ?_; (case hd => rfl); (case hg => rfl); (case hr => first | (go_simp; done) | (go_simp; rfl)); intro gb357 hg w3 hbox hb; have BK357 := Aside0.mk (hbox); have GW357 := Aside0.mk ((by rw [hg]; exact below_sizeA : w.heap.size ≤ gb357)); have GE357 := GW357; replace HB := Aside0.mk (below_stepA hb); clear hb hbox hg))
 repeat (go_quiet (first | ((with_reducible refine gate_dst (N := 1) rfl ?_); (try (refine gate_guard (by rfl) ?_; dsimp only)); refine box_event ?hg (N := 1) ?hd (cs := #[.slice A0_0 l0_0.length c0_0, .slice A0_1 l0_1.length c0_1]) (t := 25) ?hr ?_; (case hd => rfl); (case hg => rfl); (case hr => first | (go_simp; done) | (go_simp; rfl)); intro gb357 hg w3 hbox hb; have BK357 := Aside0.mk (hbox); have GW357 := Aside0.mk ((by rw [hg]; exact below_sizeA : w.heap.size ≤ gb357)); have GE357 := GW357; replace HB := Aside0.mk (below_stepA hb); clear hb hbox hg)); go_upto_region 1 with (first | ((with_reducible refine gate_dst (N := 1) rfl ?_); (try (refine gate_guard (by rfl) ?_; dsimp only)); refine box_event ?hg (N := 1) ?hd (cs := #[.slice A0_0 l0_0.length c0_0, .slice A0_1 l0_1.length c0_1]) (t := 25) ?hr ?_; (case hd => rfl); (case hg => rfl); (case hr => first | (go_simp; done) | (go_simp; rfl)); intro gb357 hg w3 hbox hb; have BK357 := Aside0.mk (hbox); have GW357 := Aside0.mk ((by rw [hg]; exact below_sizeA : w.heap.size ≤ gb357)); have GE357 := GW357; replace HB := Aside0.mk (below_stepA hb); clear hb hbox hg)))
 (try simp only [Act.put, List.setIfInBounds_toArray, List.set_cons_zero, List.set_cons_succ])
 go_cut [15] (fun v15 wc => ∃ (kq : Nat) (x15_1 : Bool), v15 = .bool x15_1 ∧ Aside0 (errataref20_Well.j0 kq x15_1 l0_0 l0_1 = some r) ∧ Aside0 (kq ≤ k) ∧ Aside0 (wc.heap[gb357]? = some (.cells #[(.slice A0_0 l0_0.length c0_0), (.slice A0_1 l0_1.length c0_1)] 25 (0, 0))) ∧ Aside0 (Below w.heap.size w wc))
 case first =>
  have H := HC2.out
  clear HC2
  by_cases c4 : (l0_1.length : Int) < 1
  ·
   rw [if_pos c4] at H
   have c4b0 : decide ((l0_1.length : Int) < 1) = true := decide_eq_true c4
   have c4b1 : decide (l0_1.length < 1) = true := decide_eq_true (by omega)
   clear c4
   (first | rw [c4b0] | (simp only [i64_w, i32_w]; rw [c4b0]) | skip)
   have H' := Aside0.mk H
   clear H
   have hz5 := blk2 BK357.out
   go_wp2
   repeat (go_quiet (fail); try go_wp2)
   go_meet
   case rel => exact ⟨_, (true), (by first | rfl | (simp; done) | (simp [*]; done)), H', ⟨by first | omega | exact Nat.le_refl _⟩, ⟨blk_move BK357.out⟩, ⟨by repeat (first | (with_reducible first | exact HB.out | apply below_alloc | apply pw_below_drewN | apply below_drew1 | refine below_set ?_ GE357.out) | exact HB.out)⟩⟩
  ·
   rw [if_neg c4] at H
   have c4b0 : decide ((l0_1.length : Int) < 1) = false := decide_eq_false c4
   have c4b1 : decide (l0_1.length < 1) = false := decide_eq_false (by omega)
   clear c4
   (first | rw [c4b0] | (simp only [i64_w, i32_w]; rw [c4b0]) | skip)
   have H' := Aside0.mk H
   clear H
   have hz6 := blk2 BK357.out
   go_wp2
   repeat (go_quiet (fail); try go_wp2)
   go_meet
   case rel => exact ⟨_, (decide ((l0_1.length : Int) > 40)), (by first | rfl | (simp; done) | (simp [*]; done)), H', ⟨by first | omega | exact Nat.le_refl _⟩, ⟨blk_move BK357.out⟩, ⟨by repeat (first | (with_reducible first | exact HB.out | apply below_alloc | apply pw_below_drewN | apply below_drew1 | refine below_set ?_ GE357.out) | exact HB.out)⟩⟩
 case rest =>
  clear HC2
  try clear c2
  try clear p2
  try clear c4
  try clear c4b0
  try clear c4b1
  try clear hz5
  try clear hz6
  obtain ⟨kq, x15_1, rfl, HA, HJ1, BK357, HB⟩ := hcut
  cases kq with
  | zero => exact absurd HA.out (by simp [errataref20_Well.j0])
  | succ kj1 =>
   have H := HA.out
   clear HA
   simp only [errataref20_Well.j0] at H
   by_cases c7 : x15_1 = true
   ·
    subst c7
    rw [if_pos rfl] at H
    obtain rfl := Option.some.inj H
    go_wp2
    repeat (go_quiet (fail); try go_wp2)
    go_ret
    exact ⟨by first | rfl | (simp [errW_none, errW_some] <;> rfl) | (simp [*, errW_none, errW_some] <;> rfl), belowA⟩
   ·
    replace c7 := Bool.eq_false_iff.mpr c7
    subst c7
    rw [if_neg (show ¬ (false = true) by decide)] at H
    have H' := Aside0.mk H
    clear H
    go_wp2
    repeat (go_quiet (fail); try go_wp2)
    go_loopg [3] kj1 (fun kq v3 w' => ∃ (x3_2 : Int), v3 = .int .i64 x3_2 ∧ Aside0 (errataref20_Well.l0 kq x3_2 l0_0 l0_1 = some r) ∧ Aside0 (kq ≤ kj1) ∧ Aside0 (w'.heap[gb357]? = some (.cells #[(.slice A0_0 l0_0.length c0_0), (.slice A0_1 l0_1.length c0_1)] 25 (0, 0))) ∧ Aside0 (Below w.heap.size w w'))
    case atStart => exact ⟨(0), (by first | rfl | (simp; done) | (simp [*]; done)), H', ⟨Nat.le_refl _⟩, ⟨blk_move BK357.out⟩, ⟨by repeat (first | (with_reducible first | exact HB.out | apply below_alloc | apply pw_below_drewN | apply below_drew1 | refine below_set ?_ GE357.out) | exact HB.out)⟩⟩
    case round =>
     clear H'
     try clear c2
     try clear p2
     try clear c4
     try clear c4b0
     try clear c4b1
     try clear c7
     try clear hz5
     try clear hz6
     try clear p2
     obtain ⟨x3_2, rfl, HA, HK2, BK357, HB⟩ := hrel
     cases gk with
     | zero => exact absurd HA.out (by simp [errataref20_Well.l0])
     | succ k2 =>
      have H := HA.out
      clear HA
      simp only [errataref20_Well.l0] at H
      by_cases c8 : x3_2 < (l0_1.length : Int)
      ·
       rw [if_pos c8] at H
       have c8b0 : decide (x3_2 < (l0_1.length : Int)) = true := decide_eq_true c8
       clear c8
       by_cases c9 : 0 ≤ x3_2
       case neg => rw [if_neg c9] at H; exact absurd H (by simp)
       rw [if_pos c9] at H
       have c9b0 : decide (0 ≤ x3_2) = true := decide_eq_true c9
       clear c9
       have HC10 := Aside0.mk H
       clear H
       have hz11 := blk2 BK357.out
       have p358 : 0 ≤ (x3_2 : Int) := odA
       have q358 : x3_2 < (l0_1.length : Int) := odA
       obtain ⟨ad358, A358_1, c358_1, A358_4, c358_4, A358_8, c358_8, A358_9, c358_9, A358_13, c358_13, A358_14, c358_14, A358_15, c358_15, e358, hx358_0, hx358_1, hx358_2, hx358_3, hx358_4, hx358_5, hx358_6, hx358_7, hx358_8, hx358_9, hx358_10, hx358_11, hx358_12, hx358_13, hx358_14, hx358_15, hl358_1, hi358_1, hl358_4, hi358_4, hl358_8, hi358_8, hl358_9, hi358_9, hl358_13, hi358_13, hl358_14, hi358_14, hl358_15, hi358_15⟩ := at_T44 HR0_1.out x3_2 p358 q358
       cases e358
       replace hx358_0 := pw_cell_below HB.out hx358_0
       replace hx358_1 := pw_cell_below HB.out hx358_1
       replace hx358_2 := pw_cell_below HB.out hx358_2
       replace hx358_3 := pw_cell_below HB.out hx358_3
       replace hx358_4 := pw_cell_below HB.out hx358_4
       replace hx358_5 := pw_cell_below HB.out hx358_5
       replace hx358_6 := pw_cell_below HB.out hx358_6
       replace hx358_7 := pw_cell_below HB.out hx358_7
       replace hx358_8 := pw_cell_below HB.out hx358_8
       replace hx358_9 := pw_cell_below HB.out hx358_9
       replace hx358_10 := pw_cell_below HB.out hx358_10
       replace hx358_11 := pw_cell_below HB.out hx358_11
       replace hx358_12 := pw_cell_below HB.out hx358_12
       replace hx358_13 := pw_cell_below HB.out hx358_13
       replace hx358_14 := pw_cell_below HB.out hx358_14
       replace hx358_15 := pw_cell_below HB.out hx358_15
       have HR358_1 := Aside0.mk hi358_1
       have HC358_1 := Aside0.mk hl358_1
       clear hi358_1 hl358_1
       have HR358_4 := Aside0.mk hi358_4
       have HC358_4 := Aside0.mk hl358_4
       clear hi358_4 hl358_4
       have HR358_8 := Aside0.mk hi358_8
       have HC358_8 := Aside0.mk hl358_8
       clear hi358_8 hl358_8
       have HR358_9 := Aside0.mk hi358_9
       have HC358_9 := Aside0.mk hl358_9
       clear hi358_9 hl358_9
       have HR358_13 := Aside0.mk hi358_13
       have HC358_13 := Aside0.mk hl358_13
       clear hi358_13 hl358_13
       have HR358_14 := Aside0.mk hi358_14
       have HC358_14 := Aside0.mk hl358_14
       clear hi358_14 hl358_14
       have HR358_15 := Aside0.mk hi358_15
       have HC358_15 := Aside0.mk hl358_15
       clear hi358_15 hl358_15
       replace p358 := eq_true p358
       replace q358 := eq_true q358
       go_upto_region 7 with (first | ((with_reducible refine gate_dst (N := 4) rfl ?_); (try (refine gate_guard (by rfl) ?_; dsimp only)); refine box_event ?hg (N := 4) ?hd (cs := #[.int .i64 0, .slice none 0 0, .string (⟨#[]⟩ : ByteArray), .int .i64 0, .slice none 0 0, .int .i64 0, .int .i64 0, .int .i64 0, .slice none 0 0, .slice none 0 0, .int .i64 0, .int .i64 0, .int .i64 0, .slice none 0 0, .slice none 0 0, .slice none 0 0]) (t := 44) ?hr ?_; (case hd => rfl); (case hg => rfl); (case hr => first | (go_simp; done) | (go_simp; rfl)); intro gb359 hg w12 hbox hb; have BK359 := Aside0.mk (hbox); have GW359 := Aside0.mk ((by rw [hg]; exact below_sizeA : w.heap.size ≤ gb359)); have GE359 := GW359; have NB357_359 := Aside0.mk ((by rw [hg]; exact Nat.ne_of_lt (blk_ltKA BK357.out) : gb357 ≠ gb359)); have NB359_357 := Aside0.mk NB357_359.out.symm; replace BK357 := Aside0.mk (blk_keepA BK357.out hb); replace HB := Aside0.mk (below_stepA hb); clear hb hbox hg; have hnb13 := NB359_357.out; have hnc13 := NB357_359.out; have hz14 := blk16 BK359.out))
       repeat (go_quiet (first | ((with_reducible refine gate_dst (N := 4) rfl ?_); (try (refine gate_guard (by rfl) ?_; dsimp only)); refine box_event ?hg (N := 4) ?hd (cs := #[.int .i64 0, .slice none 0 0, .string (⟨#[]⟩ : ByteArray), .int .i64 0, .slice none 0 0, .int .i64 0, .int .i64 0, .int .i64 0, .slice none 0 0, .slice none 0 0, .int .i64 0, .int .i64 0, .int .i64 0, .slice none 0 0, .slice none 0 0, .slice none 0 0]) (t := 44) ?hr ?_; (case hd => rfl); (case hg => rfl); (case hr => first | (go_simp; done) | (go_simp; rfl)); intro gb359 hg w12 hbox hb; have BK359 := Aside0.mk (hbox); have GW359 := Aside0.mk ((by rw [hg]; exact below_sizeA : w.heap.size ≤ gb359)); have GE359 := GW359; have NB357_359 := Aside0.mk ((by rw [hg]; exact Nat.ne_of_lt (blk_ltKA BK357.out) : gb357 ≠ gb359)); have NB359_357 := Aside0.mk NB357_359.out.symm; replace BK357 := Aside0.mk (blk_keepA BK357.out hb); replace HB := Aside0.mk (below_stepA hb); clear hb hbox hg; have hnb13 := NB359_357.out; have hnc13 := NB357_359.out; have hz14 := blk16 BK359.out)); go_upto_region 7 with (first | ((with_reducible refine gate_dst (N := 4) rfl ?_); (try (refine gate_guard (by rfl) ?_; dsimp only)); refine box_event ?hg (N := 4) ?hd (cs := #[.int .i64 0, .slice none 0 0, .string (⟨#[]⟩ : ByteArray), .int .i64 0, .slice none 0 0, .int .i64 0, .int .i64 0, .int .i64 0, .slice none 0 0, .slice none 0 0, .int .i64 0, .int .i64 0, .int .i64 0, .slice none 0 0, .slice none 0 0, .slice none 0 0]) (t := 44) ?hr ?_; (case hd => rfl); (case hg => rfl); (case hr => first | (go_simp; done) | (go_simp; rfl)); intro gb359 hg w12 hbox hb; have BK359 := Aside0.mk (hbox); have GW359 := Aside0.mk ((by rw [hg]; exact below_sizeA : w.heap.size ≤ gb359)); have GE359 := GW359; have NB357_359 := Aside0.mk ((by rw [hg]; exact Nat.ne_of_lt (blk_ltKA BK357.out) : gb357 ≠ gb359)); have NB359_357 := Aside0.mk NB357_359.out.symm; replace BK357 := Aside0.mk (blk_keepA BK357.out hb); replace HB := Aside0.mk (below_stepA hb); clear hb hbox hg; have hnb13 := NB359_357.out; have hnc13 := NB357_359.out; have hz14 := blk16 BK359.out)))
       (try simp only [Act.put, List.setIfInBounds_toArray, List.set_cons_zero, List.set_cons_succ])
       go_cut [44] (fun v44 wc => ∃ (kq : Nat) (x44_9 : Bool), v44 = .bool x44_9 ∧ Aside0 (errataref20_Well.j2 kq x3_2 x44_9 l0_0 l0_1 ((rd_T44 l0_1 x3_2).f0) ((rd_T44 l0_1 x3_2).f1) ((rd_T44 l0_1 x3_2).f2) ((rd_T44 l0_1 x3_2).f3) ((rd_T44 l0_1 x3_2).f4) ((rd_T44 l0_1 x3_2).f5) ((rd_T44 l0_1 x3_2).f6) ((rd_T44 l0_1 x3_2).f7) ((rd_T44 l0_1 x3_2).f8) ((rd_T44 l0_1 x3_2).f9) ((rd_T44 l0_1 x3_2).f10) ((rd_T44 l0_1 x3_2).f11) ((rd_T44 l0_1 x3_2).f12) ((rd_T44 l0_1 x3_2).f13) ((rd_T44 l0_1 x3_2).f14) ((rd_T44 l0_1 x3_2).f15) = some r) ∧ Aside0 (kq ≤ k2) ∧ Aside0 (wc.heap[gb357]? = some (.cells #[(.slice A0_0 l0_0.length c0_0), (.slice (some ad358) l0_1.length c0_1)] 25 (0, 0))) ∧ Aside0 (wc.heap[gb359]? = some (.cells #[.int .i64 ((rd_T44 l0_1 x3_2).f0), (.slice A358_1 ((rd_T44 l0_1 x3_2).f1).length c358_1), .string ((rd_T44 l0_1 x3_2).f2), .int .i64 ((rd_T44 l0_1 x3_2).f3), (.slice A358_4 ((rd_T44 l0_1 x3_2).f4).length c358_4), .int .i64 ((rd_T44 l0_1 x3_2).f5), .int .i64 ((rd_T44 l0_1 x3_2).f6), .int .i64 ((rd_T44 l0_1 x3_2).f7), (.slice A358_8 ((rd_T44 l0_1 x3_2).f8).length c358_8), (.slice A358_9 ((rd_T44 l0_1 x3_2).f9).length c358_9), .int .i64 ((rd_T44 l0_1 x3_2).f10), .int .i64 ((rd_T44 l0_1 x3_2).f11), .int .i64 ((rd_T44 l0_1 x3_2).f12), (.slice A358_13 ((rd_T44 l0_1 x3_2).f13).length c358_13), (.slice A358_14 ((rd_T44 l0_1 x3_2).f14).length c358_14), (.slice A358_15 ((rd_T44 l0_1 x3_2).f15).length c358_15)] 44 (0, 0))) ∧ Aside0 (Below w.heap.size w wc))
       case first =>
        have H := HC10.out
        clear HC10
        by_cases c15 : ((rd_T44 l0_1 x3_2).f0) < 0
        ·
         rw [if_pos c15] at H
         have c15b0 : decide (((rd_T44 l0_1 x3_2).f0) < 0) = true := decide_eq_true c15
         clear c15
         (first | rw [c15b0] | (simp only [i64_w, i32_w]; rw [c15b0]) | skip)
         have H' := Aside0.mk H
         clear H
         have hnb16 := NB359_357.out
         have hnc16 := NB357_359.out
         have hz17 := blk16 BK359.out
         go_wp2
         repeat (go_quiet (fail); try go_wp2)
         go_meet
         case rel => exact ⟨_, (true), (by first | rfl | (simp; done) | (simp [*]; done)), H', ⟨by have := HJ1.out; have := HK2.out; first | omega | exact Nat.le_refl _⟩, ⟨blk_move BK357.out⟩, ⟨blk_move BK359.out⟩, ⟨by repeat (first | (with_reducible first | exact HB.out | apply below_alloc | apply pw_below_drewN | apply below_drew1 | refine below_set ?_ GE357.out | refine below_set ?_ GE359.out) | exact HB.out)⟩⟩
        ·
         rw [if_neg c15] at H
         have c15b0 : decide (((rd_T44 l0_1 x3_2).f0) < 0) = false := decide_eq_false c15
         clear c15
         (first | rw [c15b0] | (simp only [i64_w, i32_w]; rw [c15b0]) | skip)
         by_cases c18 : ((rd_T44 l0_1 x3_2).f0) ≥ 9
         ·
          rw [if_pos c18] at H
          have c18b0 : decide (9 ≤ ((rd_T44 l0_1 x3_2).f0)) = true := decide_eq_true c18
          clear c18
          have H' := Aside0.mk H
          clear H
          have hnb19 := NB359_357.out
          have hnc19 := NB357_359.out
          have hz20 := blk16 BK359.out
          go_wp2
          repeat (go_quiet (fail); try go_wp2)
          go_meet
          case rel => exact ⟨_, (true), (by first | rfl | (simp; done) | (simp [*]; done)), H', ⟨by have := HJ1.out; have := HK2.out; first | omega | exact Nat.le_refl _⟩, ⟨blk_move BK357.out⟩, ⟨blk_move BK359.out⟩, ⟨by repeat (first | (with_reducible first | exact HB.out | apply below_alloc | apply pw_below_drewN | apply below_drew1 | refine below_set ?_ GE357.out | refine below_set ?_ GE359.out) | exact HB.out)⟩⟩
         ·
          rw [if_neg c18] at H
          have c18b0 : decide (9 ≤ ((rd_T44 l0_1 x3_2).f0)) = false := decide_eq_false c18
          clear c18
          replace H := Option.bind_eq_some_iff.mp H
          obtain ⟨t360, A210, H⟩ := H
          try dsimp only at H
          have A21 := Aside0.mk A210
          clear A210
          have H' := Aside0.mk H
          clear H
          have hnb22 := NB359_357.out
          have hnc22 := NB357_359.out
          have hz23 := blk16 BK359.out
          go_wp2_with (first | (go_at_call 33; (with_reducible refine (errataref20_inputs.calls _ t360 _ A21.out).mono ?_); rintro e w' ⟨rfl, ⟨nd, rfl⟩⟩; (try first | exact ⟨rfl, _, World.drewN_drewN _ _ _⟩ | exact ⟨rfl, _, Eq.trans (World.drewN_drewN _ _ _) (congrArg (World.drewN _) (Nat.add_assoc _ _ _))⟩)))
          repeat (go_quiet (first | (go_at_call 33; (with_reducible refine (errataref20_inputs.calls _ t360 _ A21.out).mono ?_); rintro e w' ⟨rfl, ⟨nd, rfl⟩⟩; (try first | exact ⟨rfl, _, World.drewN_drewN _ _ _⟩ | exact ⟨rfl, _, Eq.trans (World.drewN_drewN _ _ _) (congrArg (World.drewN _) (Nat.add_assoc _ _ _))⟩))); try go_wp2_with (first | (go_at_call 33; (with_reducible refine (errataref20_inputs.calls _ t360 _ A21.out).mono ?_); rintro e w' ⟨rfl, ⟨nd, rfl⟩⟩; (try first | exact ⟨rfl, _, World.drewN_drewN _ _ _⟩ | exact ⟨rfl, _, Eq.trans (World.drewN_drewN _ _ _) (congrArg (World.drewN _) (Nat.add_assoc _ _ _))⟩))))
          go_meet
          case rel => exact ⟨_, (((((rd_T44 l0_1 x3_2).f1).length : Int) != t360)), (by first | rfl | (simp; done) | (simp [*]; done)), H', ⟨by have := HJ1.out; have := HK2.out; first | omega | exact Nat.le_refl _⟩, ⟨blk_move BK357.out⟩, ⟨blk_move BK359.out⟩, ⟨by repeat (first | (with_reducible first | exact HB.out | apply below_alloc | apply pw_below_drewN | apply below_drew1 | refine below_set ?_ GE357.out | refine below_set ?_ GE359.out) | exact HB.out)⟩⟩
       case rest =>
        clear HC10
        try clear c1
        try clear c2
        try clear p2
        try clear c3
        try clear p3
        try clear q3
        try clear hx3
        try clear c4
        try clear c4b0
        try clear c4b1
        try clear c7
        try clear c8
        try clear c8b0
        try clear c9
        try clear c9b0
        try clear c13
        try clear c15
        try clear c15b0
        try clear c16
        try clear c18
        try clear c18b0
        try clear c19
        try clear c22
        try clear hz11
        try clear hz14
        try clear hz17
        try clear hz20
        try clear hz23
        try clear hz5
        try clear hz6
        try clear hx358_0
        try clear hx358_1
        try clear hx358_10
        try clear hx358_11
        try clear hx358_12
        try clear hx358_13
        try clear hx358_14
        try clear hx358_15
        try clear hx358_2
        try clear hx358_3
        try clear hx358_4
        try clear hx358_5
        try clear hx358_6
        try clear hx358_7
        try clear hx358_8
        try clear hx358_9
        try clear p2
        try clear p358
        try clear q358
        obtain ⟨kq, x44_9, rfl, HA, HJ9, BK357, BK359, HB⟩ := hcut
        cases kq with
        | zero => exact absurd HA.out (by simp [errataref20_Well.j2])
        | succ kj9 =>
         have H := HA.out
         clear HA
         simp only [errataref20_Well.j2] at H
         by_cases c24 : x44_9 = true
         ·
          subst c24
          rw [if_pos rfl] at H
          obtain rfl := Option.some.inj H
          go_wp2
          repeat (go_quiet (fail); try go_wp2)
          go_ret
          exact ⟨by first | rfl | (simp [errW_none, errW_some] <;> rfl) | (simp [*, errW_none, errW_some] <;> rfl), belowA⟩
         ·
          replace c24 := Bool.eq_false_iff.mpr c24
          subst c24
          rw [if_neg (show ¬ (false = true) by decide)] at H
          have H' := Aside0.mk H
          clear H
          go_wp2
          repeat (go_quiet (fail); try go_wp2)
          go_loopg [5] kj9 (fun kq v5 w' => ∃ (x5_4 : Int), v5 = .int .i64 x5_4 ∧ Aside0 (errataref20_Well.l1 kq x3_2 x5_4 l0_0 l0_1 ((rd_T44 l0_1 x3_2).f0) ((rd_T44 l0_1 x3_2).f1) ((rd_T44 l0_1 x3_2).f2) ((rd_T44 l0_1 x3_2).f3) ((rd_T44 l0_1 x3_2).f4) ((rd_T44 l0_1 x3_2).f5) ((rd_T44 l0_1 x3_2).f6) ((rd_T44 l0_1 x3_2).f7) ((rd_T44 l0_1 x3_2).f8) ((rd_T44 l0_1 x3_2).f9) ((rd_T44 l0_1 x3_2).f10) ((rd_T44 l0_1 x3_2).f11) ((rd_T44 l0_1 x3_2).f12) ((rd_T44 l0_1 x3_2).f13) ((rd_T44 l0_1 x3_2).f14) ((rd_T44 l0_1 x3_2).f15) = some r) ∧ Aside0 (kq ≤ kj9) ∧ Aside0 (w'.heap[gb357]? = some (.cells #[(.slice A0_0 l0_0.length c0_0), (.slice (some ad358) l0_1.length c0_1)] 25 (0, 0))) ∧ Aside0 (w'.heap[gb359]? = some (.cells #[.int .i64 ((rd_T44 l0_1 x3_2).f0), (.slice A358_1 ((rd_T44 l0_1 x3_2).f1).length c358_1), .string ((rd_T44 l0_1 x3_2).f2), .int .i64 ((rd_T44 l0_1 x3_2).f3), (.slice A358_4 ((rd_T44 l0_1 x3_2).f4).length c358_4), .int .i64 ((rd_T44 l0_1 x3_2).f5), .int .i64 ((rd_T44 l0_1 x3_2).f6), .int .i64 ((rd_T44 l0_1 x3_2).f7), (.slice A358_8 ((rd_T44 l0_1 x3_2).f8).length c358_8), (.slice A358_9 ((rd_T44 l0_1 x3_2).f9).length c358_9), .int .i64 ((rd_T44 l0_1 x3_2).f10), .int .i64 ((rd_T44 l0_1 x3_2).f11), .int .i64 ((rd_T44 l0_1 x3_2).f12), (.slice A358_13 ((rd_T44 l0_1 x3_2).f13).length c358_13), (.slice A358_14 ((rd_T44 l0_1 x3_2).f14).length c358_14), (.slice A358_15 ((rd_T44 l0_1 x3_2).f15).length c358_15)] 44 (0, 0))) ∧ Aside0 (Below w.heap.size w w'))
          case atStart => exact ⟨(0), (by first | rfl | (simp; done) | (simp [*]; done)), H', ⟨Nat.le_refl _⟩, ⟨blk_move BK357.out⟩, ⟨blk_move BK359.out⟩, ⟨by repeat (first | (with_reducible first | exact HB.out | apply below_alloc | apply pw_below_drewN | apply below_drew1 | refine below_set ?_ GE357.out | refine below_set ?_ GE359.out) | exact HB.out)⟩⟩
          case round =>
           clear H'
           try clear c1
           try clear c2
           try clear p2
           try clear c3
           try clear p3
           try clear q3
           try clear hx3
           try clear c4
           try clear c4b0
           try clear c4b1
           try clear c7
           try clear c8
           try clear c8b0
           try clear c9
           try clear c9b0
           try clear c13
           try clear c15
           try clear c15b0
           try clear c16
           try clear c18
           try clear c18b0
           try clear c19
           try clear c22
           try clear c24
           try clear hz11
           try clear hz14
           try clear hz17
           try clear hz20
           try clear hz23
           try clear hz5
           try clear hz6
           try clear hx358_0
           try clear hx358_1
           try clear hx358_10
           try clear hx358_11
           try clear hx358_12
           try clear hx358_13
           try clear hx358_14
           try clear hx358_15
           try clear hx358_2
           try clear hx358_3
           try clear hx358_4
           try clear hx358_5
           try clear hx358_6
           try clear hx358_7
           try clear hx358_8
           try clear hx358_9
           try clear p2
           try clear p3
           try clear p358
           try clear q3
           try clear q358
           obtain ⟨x5_4, rfl, HA, HK4, BK357, BK359, HB⟩ := hrel
           cases gk with
           | zero => exact absurd HA.out (by simp [errataref20_Well.l1])
           | succ k4 =>
            have H := HA.out
            clear HA
            simp only [errataref20_Well.l1] at H
            by_cases c25 : x5_4 < (((rd_T44 l0_1 x3_2).f1).length : Int)
            ·
             rw [if_pos c25] at H
             have c25b0 : decide (x5_4 < (((rd_T44 l0_1 x3_2).f1).length : Int)) = true := decide_eq_true c25
             clear c25
             by_cases c26 : 0 ≤ x5_4
             case neg => rw [if_neg c26] at H; exact absurd H (by simp)
             rw [if_pos c26] at H
             have c26b0 : decide (0 ≤ x5_4) = true := decide_eq_true c26
             clear c26
             by_cases c27 : (rd ((rd_T44 l0_1 x3_2).f1) x5_4) < 0
             ·
              rw [if_pos c27] at H
              have c27b0 : decide ((rd ((rd_T44 l0_1 x3_2).f1) x5_4) < 0) = true := decide_eq_true c27
              clear c27
              obtain rfl := Option.some.inj H
              have hnb28 := NB359_357.out
              have hnc28 := NB357_359.out
              have hz29 := blk16 BK359.out
              have p361 : 0 ≤ (x5_4 : Int) := odA
              have q361 : x5_4 < (((rd_T44 l0_1 x3_2).f1).length : Int) := odA
              obtain ⟨ad361, e361, hx361_0⟩ := Kd.at_int HR358_1.out x5_4 p361 q361
              cases e361
              replace hx361_0 := pw_cell_below HB.out hx361_0
              replace p361 := eq_true p361
              replace q361 := eq_true q361
              go_wp2
              repeat (go_quiet (fail); try go_wp2)
              go_ret
              exact ⟨by first | rfl | (simp [errW_none, errW_some] <;> rfl) | (simp [*, errW_none, errW_some] <;> rfl), belowA⟩
             ·
              rw [if_neg c27] at H
              have c27b0 : decide ((rd ((rd_T44 l0_1 x3_2).f1) x5_4) < 0) = false := decide_eq_false c27
              clear c27
              by_cases c30 : (rd ((rd_T44 l0_1 x3_2).f1) x5_4) ≥ x3_2
              ·
               rw [if_pos c30] at H
               have c30b0 : decide (x3_2 ≤ (rd ((rd_T44 l0_1 x3_2).f1) x5_4)) = true := decide_eq_true c30
               clear c30
               obtain rfl := Option.some.inj H
               have hnb31 := NB359_357.out
               have hnc31 := NB357_359.out
               have hz32 := blk16 BK359.out
               have p361 : 0 ≤ (x5_4 : Int) := odA
               have q361 : x5_4 < (((rd_T44 l0_1 x3_2).f1).length : Int) := odA
               obtain ⟨ad361, e361, hx361_0⟩ := Kd.at_int HR358_1.out x5_4 p361 q361
               cases e361
               replace hx361_0 := pw_cell_below HB.out hx361_0
               replace p361 := eq_true p361
               replace q361 := eq_true q361
               have p362 : 0 ≤ (x5_4 : Int) := odA
               have q362 : x5_4 < (((rd_T44 l0_1 x3_2).f1).length : Int) := odA
               obtain ⟨ad362, e362, hx362_0⟩ := Kd.at_int HR358_1.out x5_4 p362 q362
               obtain rfl : ad361 = ad362 := (by injection e362)
               replace hx362_0 := pw_cell_below HB.out hx362_0
               replace p362 := eq_true p362
               replace q362 := eq_true q362
               go_wp2
               repeat (go_quiet (fail); try go_wp2)
               go_ret
               exact ⟨by first | rfl | (simp [errW_none, errW_some] <;> rfl) | (simp [*, errW_none, errW_some] <;> rfl), belowA⟩
              ·
               rw [if_neg c30] at H
               have c30b0 : decide (x3_2 ≤ (rd ((rd_T44 l0_1 x3_2).f1) x5_4)) = false := decide_eq_false c30
               clear c30
               have H' := Aside0.mk H
               clear H
               have hnb33 := NB359_357.out
               have hnc33 := NB357_359.out
               have hz34 := blk16 BK359.out
               have p361 : 0 ≤ (x5_4 : Int) := odA
               have q361 : x5_4 < (((rd_T44 l0_1 x3_2).f1).length : Int) := odA
               obtain ⟨ad361, e361, hx361_0⟩ := Kd.at_int HR358_1.out x5_4 p361 q361
               cases e361
               replace hx361_0 := pw_cell_below HB.out hx361_0
               replace p361 := eq_true p361
               replace q361 := eq_true q361
               have p362 : 0 ≤ (x5_4 : Int) := odA
               have q362 : x5_4 < (((rd_T44 l0_1 x3_2).f1).length : Int) := odA
               obtain ⟨ad362, e362, hx362_0⟩ := Kd.at_int HR358_1.out x5_4 p362 q362
               obtain rfl : ad361 = ad362 := (by injection e362)
               replace hx362_0 := pw_cell_below HB.out hx362_0
               replace p362 := eq_true p362
               replace q362 := eq_true q362
               go_wp2
               repeat (go_quiet (fail); try go_wp2)
               go_roundg k4
               case measure => have := HJ1.out; have := HK2.out; have := HJ9.out; have := HK4.out; omega
               case rel => exact ⟨(wrap64 (x5_4 + 1)), (by first | rfl | (simp; done) | (simp [*]; done)), H', ⟨by have := HJ1.out; have := HK2.out; have := HJ9.out; have := HK4.out; omega⟩, ⟨blk_move BK357.out⟩, ⟨blk_move BK359.out⟩, ⟨by repeat (first | (with_reducible first | exact HB.out | apply below_alloc | apply pw_below_drewN | apply below_drew1 | refine below_set ?_ GE357.out | refine below_set ?_ GE359.out) | exact HB.out)⟩⟩
            ·
             rw [if_neg c25] at H
             have c25b0 : decide (x5_4 < (((rd_T44 l0_1 x3_2).f1).length : Int)) = false := decide_eq_false c25
             clear c25
             have H' := Aside0.mk H
             clear H
             have hnb35 := NB359_357.out
             have hnc35 := NB357_359.out
             have hz36 := blk16 BK359.out
             go_wp2
             repeat (go_quiet (fail); try go_wp2)
             go_roundg k4
             case measure => have := HJ1.out; have := HK2.out; have := HJ9.out; have := HK4.out; omega
             case rel => exact ⟨(wrap64 (x3_2 + 1)), (by first | rfl | (simp; done) | (simp [*]; done)), H', ⟨by have := HJ1.out; have := HK2.out; have := HJ9.out; have := HK4.out; omega⟩, ⟨blk_move BK357.out⟩, ⟨by repeat (first | (with_reducible first | exact HB.out | apply below_alloc | apply pw_below_drewN | apply below_drew1 | refine below_set ?_ GE357.out | refine below_set ?_ GE359.out) | exact HB.out)⟩⟩
      ·
       rw [if_neg c8] at H
       have c8b0 : decide (x3_2 < (l0_1.length : Int)) = false := decide_eq_false c8
       clear c8
       obtain rfl := Option.some.inj H
       have hz37 := blk2 BK357.out
       go_wp2
       repeat (go_quiet (fail); try go_wp2)
       go_ret
       exact ⟨by first | rfl | (simp [errW_none, errW_some] <;> rfl) | (simp [*, errW_none, errW_some] <;> rfl), belowA⟩

end Go.Proofs.Yteoljddobfnfiaa.PB
end
section
namespace Go.Proofs.Yteoljddobfnfiaa.PB
open Go.RowKit Go.Proofs.YteoljddobfnfiaaW.PrintWords Go.Proofs.YteoljddobfnfiaaW.PrintLast Go.Proofs.YteoljddobfnfiaaW.PrintMore
attribute [local go_sem] max2_int min2_int max_two min_two max_three min_three max_four min_four
attribute [local go_sem ↓ high] Go.Proofs.Yteoljddobfnfiaa.My.ld44_eq Go.Proofs.Yteoljddobfnfiaa.My.st44_eq Go.Proofs.Yteoljddobfnfiaa.My.ld27_eq Go.Proofs.Yteoljddobfnfiaa.My.st27_eq Go.Proofs.Yteoljddobfnfiaa.My.ld37_eq Go.Proofs.Yteoljddobfnfiaa.My.st37_eq Go.Proofs.Yteoljddobfnfiaa.My.ld65_eq Go.Proofs.Yteoljddobfnfiaa.My.st65_eq
attribute [local go_sem high] Go.Proofs.Yteoljddobfnfiaa.My.ld44_run Go.Proofs.Yteoljddobfnfiaa.My.st44_run Go.Proofs.Yteoljddobfnfiaa.My.ld27_run Go.Proofs.Yteoljddobfnfiaa.My.st27_run Go.Proofs.Yteoljddobfnfiaa.My.ld37_run Go.Proofs.Yteoljddobfnfiaa.My.st37_run Go.Proofs.Yteoljddobfnfiaa.My.ld65_run Go.Proofs.Yteoljddobfnfiaa.My.st65_run
open Go.Proofs.Yteoljddobfnfiaa.My
attribute [local go_sem] cell_map run_store_fnV one_int one_bool one_string one_slice one_fnV
set_option linter.unusedVariables false
set_option linter.unusedSimpArgs false

def errataref20_times.j0 : Nat → Int → Int → Bool → Option (Int)
  | 0, _, _, _ => none
  | k + 1, x0, x1, x10 => if x10 = true then (some 0) else (if x1 = 0 then (none) else (if x0 > (wrap64 (Int.tdiv (1099511627776 : Int) x1)) then (some 1099511627776) else (some (mn (wrap64 (x0 * x1)) 1099511627776))))
def errataref20_times.f (k : Nat) (a0 : Int) (a1 : Int) : Option (Int) := if a0 = 0 then (errataref20_times.j0 k a0 a1 true) else (errataref20_times.j0 k a0 a1 (a1 == 0))
set_option maxHeartbeats 8000000 in
set_option maxRecDepth 100000 in
theorem errataref20_times.calls (k : Nat) (a0 : Int) (a1 : Int) (r : Int) (w : World) (h : errataref20_times.f k a0 a1 = some r) :
    Calls Try.prog 48 #[.int .i64 a0, .int .i64 a1] w fun e w' => e = .returned (.int .i64 r) ∧ Below w.heap.size w w' := by
 have HB := Aside0.mk (Below.refl w.heap.size w)
 have H : (if a0 = 0 then (errataref20_times.j0 k a0 a1 true) else (errataref20_times.j0 k a0 a1 (a1 == 0))) = some r := h
 clear h
 have HC3 := Aside0.mk H
 clear H
 go_enter Try.func48, Try.ntmps48
 go_upto_region 1 with (fail)
 go_cut [10] (fun v10 wc => ∃ (kq : Nat) (x10_2 : Bool), v10 = .bool x10_2 ∧ Aside0 (errataref20_times.j0 kq a0 a1 x10_2 = some r) ∧ Aside0 (kq ≤ k) ∧ Aside0 (Below w.heap.size w wc))
 case first =>
  have H := HC3.out
  clear HC3
  by_cases c4 : a0 = 0
  ·
   rw [if_pos c4] at H
   have c4b0 : (a0 == 0) = true := beq_iff_eq.mpr c4
   have c4b1 : (a0 != 0) = false := bne_eq_false_iff_eq.mpr c4
   clear c4
   (first | rw [c4b0] | (simp only [i64_w, i32_w]; rw [c4b0]) | skip)
   have H' := Aside0.mk H
   clear H
   go_wp2
   go_meet
   case rel => exact ⟨_, (true), (by first | rfl | (simp; done) | (simp [*]; done)), H', ⟨by first | omega | exact Nat.le_refl _⟩, ⟨by repeat (first | (with_reducible first | exact HB.out | apply below_alloc | apply pw_below_drewN | apply below_drew1) | exact HB.out)⟩⟩
  ·
   rw [if_neg c4] at H
   have c4b0 : (a0 == 0) = false := beq_eq_false_iff_ne.mpr c4
   have c4b1 : (a0 != 0) = true := bne_iff_ne.mpr c4
   (first | rw [c4b0] | (simp only [i64_w, i32_w]; rw [c4b0]) | skip)
   have H' := Aside0.mk H
   clear H
   go_wp2
   go_meet
   case rel => exact ⟨_, ((a1 == 0)), (by first | rfl | (simp; done) | (simp [*]; done)), H', ⟨by first | omega | exact Nat.le_refl _⟩, ⟨by repeat (first | (with_reducible first | exact HB.out | apply below_alloc | apply pw_below_drewN | apply below_drew1) | exact HB.out)⟩⟩
 case rest =>
  clear HC3
  try clear p2
  try clear c4
  try clear c4b0
  try clear c4b1
  obtain ⟨kq, x10_2, rfl, HA, HJ2, HB⟩ := hcut
  cases kq with
  | zero => exact absurd HA.out (by simp [errataref20_times.j0])
  | succ kj2 =>
   have H := HA.out
   clear HA
   simp only [errataref20_times.j0] at H
   by_cases c5 : x10_2 = true
   ·
    subst c5
    rw [if_pos rfl] at H
    obtain rfl := Option.some.inj H
    go_wp2
    go_ret
    exact ⟨by first | rfl | (simp [errW_none, errW_some] <;> rfl) | (simp [*, errW_none, errW_some] <;> rfl), belowA⟩
   ·
    replace c5 := Bool.eq_false_iff.mpr c5
    subst c5
    rw [if_neg (show ¬ (false = true) by decide)] at H
    by_cases c6 : a1 = 0
    case pos => rw [if_pos c6] at H; exact absurd H (by simp)
    rw [if_neg c6] at H
    have c6b0 : (a1 == 0) = false := beq_eq_false_iff_ne.mpr c6
    have c6b1 : (a1 != 0) = true := bne_iff_ne.mpr c6
    by_cases c7 : a0 > (wrap64 (Int.tdiv (1099511627776 : Int) a1))
    ·
     rw [if_pos c7] at H
     have c7b0 : decide ((wrap64 (Int.tdiv (1099511627776 : Int) a1)) < a0) = true := decide_eq_true c7
     clear c7
     obtain rfl := Option.some.inj H
     go_wp2
     go_ret
     exact ⟨by first | rfl | (simp [errW_none, errW_some] <;> rfl) | (simp [*, errW_none, errW_some] <;> rfl), belowA⟩
    ·
     rw [if_neg c7] at H
     have c7b0 : decide ((wrap64 (Int.tdiv (1099511627776 : Int) a1)) < a0) = false := decide_eq_false c7
     clear c7
     obtain ⟨ji8, hji8⟩ : ∃ j_ : Int, (mn (wrap64 (a0 * a1)) 1099511627776) = j_ := ⟨_, rfl⟩
     replace H : (some ji8) = some r := by first | (rw [hji8] at H; exact H) | (simp only [hji8] at H ⊢; exact H)
     have hji8_ : (if 1099511627776 < (wrap64 (a0 * a1)) then 1099511627776 else (wrap64 (a0 * a1))) = ji8 := hji8
     obtain rfl := Option.some.inj H
     go_wp2
     go_ret
     exact ⟨by first | rfl | (simp [errW_none, errW_some] <;> rfl) | (simp only [← hji8]; first | rfl | (simp [errW_none, errW_some] <;> rfl)) | (simp [*, errW_none, errW_some] <;> rfl), belowA⟩

def errataref20_rate.j0 : Nat → List (S37) → Int → Int → Bool → Int → List Int → ByteArray → Int → List (S93) → Int → Int → Int → List Int → List Int → Int → Int → Int → List (S97) → List (S99) → List (S50) → Option (Int)
  | 0, _, _, _, _, _, _, _, _, _, _, _, _, _, _, _, _, _, _, _, _ => none
  | k + 1, x1, x7, x25, x39, x364000, x364001, x364002, x364003, x364004, x364005, x364006, x364007, x364008, x364009, x364010, x364011, x364012, x364013, x364014, x364015 => if x39 = true then ((errataref20_times.f k x7 x364006).bind fun t369 => (some t369)) else (if x25 = 6 then (if 1 < (x364001.length : Int) then (if 0 ≤ (rd x364001 1) then (if (rd x364001 1) < (x1.length : Int) then ((errataref20_times.f k x7 ((rd_T37 x1 (rd x364001 1)).f2)).bind fun t372 => ((errataref20_times.f k t372 (wrap64 ((wrap64 (x364010 + x364011)) + 2))).bind fun t373 => (some t373))) else (none)) else (none)) else (none)) else (some x7))
def errataref20_rate.f (k : Nat) (a0_0 : Int) (l0_1 : List Int) (a0_2 : ByteArray) (a0_3 : Int) (l0_4 : List (S93)) (a0_5 : Int) (a0_6 : Int) (a0_7 : Int) (l0_8 : List Int) (l0_9 : List Int) (a0_10 : Int) (a0_11 : Int) (a0_12 : Int) (l0_13 : List (S97)) (l0_14 : List (S99)) (l0_15 : List (S50)) (l1 : List (S37)) (a2_0 : Int) (a2_1 : Int) (a2_2 : Int) (a2_3 : Int) (a2_4 : Int) (a2_5 : Int) : Option (Int) := if a0_0 = 0 then (some (wrap64 (a2_0 * a2_4))) else (if 0 < (l0_1.length : Int) then (if 0 ≤ (rd l0_1 0) then (if (rd l0_1 0) < (l1.length : Int) then (if a0_0 = 3 then (if 1 < (l0_1.length : Int) then (if 0 ≤ (rd l0_1 1) then (if (rd l0_1 1) < (l1.length : Int) then (some (mn (wrap64 (((rd_T37 l1 (rd l0_1 0)).f2) + ((rd_T37 l1 (rd l0_1 1)).f2))) 1099511627776)) else (none)) else (none)) else (none)) else (if a0_0 = 4 then (errataref20_rate.j0 k l1 ((rd_T37 l1 (rd l0_1 0)).f2) a0_0 (a0_0 == 4) a0_0 l0_1 a0_2 a0_3 l0_4 a0_5 a0_6 a0_7 l0_8 l0_9 a0_10 a0_11 a0_12 l0_13 l0_14 l0_15) else (errataref20_rate.j0 k l1 ((rd_T37 l1 (rd l0_1 0)).f2) a0_0 (a0_0 == 5) a0_0 l0_1 a0_2 a0_3 l0_4 a0_5 a0_6 a0_7 l0_8 l0_9 a0_10 a0_11 a0_12 l0_13 l0_14 l0_15))) else (none)) else (none)) else (none))
def errataref20_rate.T11 : Bool × List (List Nat × List Nat) := (true, [([], []), ([], []), ([], []), ([2], [2]), ([3], [3]), ([4], [4]), ([1, 5], [1, 5]), ([6], [6]), ([7], [7]), ([0, 8], [0, 8]), ([], []), ([10], [10]), ([], []), ([12], [12]), ([11, 13], [11, 13]), ([14], [14]), ([9, 15, 9], [9, 15]), ([16, 16, 0, 1, 2, 3, 4, 5, 6, 7, 8, 9, 10, 11, 12, 13, 14, 15, 16], [16])])
def errataref20_rate.B11 : List Nat := [0, 0, 0, 4, 12, 28, 62, 126, 254, 511, 0, 1024, 0, 4096, 15360, 31744, 65535, 131071]
theorem errataref20_rate.tab11 : rtab .any (opsOf Try.f30 11) = errataref20_rate.T11 := by kernel_rfl
theorem errataref20_rate.bits11 : waitsOk errataref20_rate.T11.2 errataref20_rate.B11 = true := by kernel_rfl
set_option maxHeartbeats 8000000 in
set_option maxRecDepth 100000 in
theorem errataref20_rate.calls (k : Nat) (a0_0 : Int) (A0_1 : Option Addr) (c0_1 : Nat) (l0_1 : List Int) (a0_2 : ByteArray) (a0_3 : Int) (A0_4 : Option Addr) (c0_4 : Nat) (l0_4 : List (S93)) (a0_5 : Int) (a0_6 : Int) (a0_7 : Int) (A0_8 : Option Addr) (c0_8 : Nat) (l0_8 : List Int) (A0_9 : Option Addr) (c0_9 : Nat) (l0_9 : List Int) (a0_10 : Int) (a0_11 : Int) (a0_12 : Int) (A0_13 : Option Addr) (c0_13 : Nat) (l0_13 : List (S97)) (A0_14 : Option Addr) (c0_14 : Nat) (l0_14 : List (S99)) (A0_15 : Option Addr) (c0_15 : Nat) (l0_15 : List (S50)) (A1 : Option Addr) (c1 : Nat) (l1 : List (S37)) (a2_0 : Int) (a2_1 : Int) (a2_2 : Int) (a2_3 : Int) (a2_4 : Int) (a2_5 : Int) (r : Int) (w : World) (hr0_1 : Kd.C (Kd.int .i64) w A0_1 l0_1.length l0_1) (hc0_1 : l0_1.length ≤ c0_1) (hr0_4 : Kd.C k93 w A0_4 l0_4.length l0_4) (hc0_4 : l0_4.length ≤ c0_4) (hr0_8 : Kd.C (Kd.int .i64) w A0_8 l0_8.length l0_8) (hc0_8 : l0_8.length ≤ c0_8) (hr0_9 : Kd.C (Kd.int .i64) w A0_9 l0_9.length l0_9) (hc0_9 : l0_9.length ≤ c0_9) (hr0_13 : Kd.C k97 w A0_13 l0_13.length l0_13) (hc0_13 : l0_13.length ≤ c0_13) (hr0_14 : Kd.C k99 w A0_14 l0_14.length l0_14) (hc0_14 : l0_14.length ≤ c0_14) (hr0_15 : Kd.C k50 w A0_15 l0_15.length l0_15) (hc0_15 : l0_15.length ≤ c0_15) (hr1 : Kd.C k37 w A1 l1.length l1) (hc1 : l1.length ≤ c1) (h : errataref20_rate.f k a0_0 l0_1 a0_2 a0_3 l0_4 a0_5 a0_6 a0_7 l0_8 l0_9 a0_10 a0_11 a0_12 l0_13 l0_14 l0_15 l1 a2_0 a2_1 a2_2 a2_3 a2_4 a2_5 = some r) :
    Calls Try.prog 30 #[.agg #[.int .i64 a0_0, .slice A0_1 l0_1.length c0_1, .string a0_2, .int .i64 a0_3, .slice A0_4 l0_4.length c0_4, .int .i64 a0_5, .int .i64 a0_6, .int .i64 a0_7, .slice A0_8 l0_8.length c0_8, .slice A0_9 l0_9.length c0_9, .int .i64 a0_10, .int .i64 a0_11, .int .i64 a0_12, .slice A0_13 l0_13.length c0_13, .slice A0_14 l0_14.length c0_14, .slice A0_15 l0_15.length c0_15], .slice A1 l1.length c1, .agg #[.int .i64 a2_0, .int .i64 a2_1, .int .i64 a2_2, .int .i64 a2_3, .int .i64 a2_4, .int .i64 a2_5]] w fun e w' => e = .returned (.int .i64 r) ∧ Below w.heap.size w w' := by
 have hu44 := Try.underlying44
 have hu27 := Try.underlying27
 have HR0_1 := Aside0.mk hr0_1
 have HC0_1 := Aside0.mk hc0_1
 clear hr0_1 hc0_1
 have HR0_4 := Aside0.mk hr0_4
 have HC0_4 := Aside0.mk hc0_4
 clear hr0_4 hc0_4
 have HR0_8 := Aside0.mk hr0_8
 have HC0_8 := Aside0.mk hc0_8
 clear hr0_8 hc0_8
 have HR0_9 := Aside0.mk hr0_9
 have HC0_9 := Aside0.mk hc0_9
 clear hr0_9 hc0_9
 have HR0_13 := Aside0.mk hr0_13
 have HC0_13 := Aside0.mk hc0_13
 clear hr0_13 hc0_13
 have HR0_14 := Aside0.mk hr0_14
 have HC0_14 := Aside0.mk hc0_14
 clear hr0_14 hc0_14
 have HR0_15 := Aside0.mk hr0_15
 have HC0_15 := Aside0.mk hc0_15
 clear hr0_15 hc0_15
 have HR1 := Aside0.mk hr1
 have HC1 := Aside0.mk hc1
 clear hr1 hc1
 have HB := Aside0.mk (Below.refl w.heap.size w)
 have H : (if a0_0 = 0 then (some (wrap64 (a2_0 * a2_4))) else (if 0 < (l0_1.length : Int) then (if 0 ≤ (rd l0_1 0) then (if (rd l0_1 0) < (l1.length : Int) then (if a0_0 = 3 then (if 1 < (l0_1.length : Int) then (if 0 ≤ (rd l0_1 1) then (if (rd l0_1 1) < (l1.length : Int) then (some (mn (wrap64 (((rd_T37 l1 (rd l0_1 0)).f2) + ((rd_T37 l1 (rd l0_1 1)).f2))) 1099511627776)) else (none)) else (none)) else (none)) else (if a0_0 = 4 then (errataref20_rate.j0 k l1 ((rd_T37 l1 (rd l0_1 0)).f2) a0_0 (a0_0 == 4) a0_0 l0_1 a0_2 a0_3 l0_4 a0_5 a0_6 a0_7 l0_8 l0_9 a0_10 a0_11 a0_12 l0_13 l0_14 l0_15) else (errataref20_rate.j0 k l1 ((rd_T37 l1 (rd l0_1 0)).f2) a0_0 (a0_0 == 5) a0_0 l0_1 a0_2 a0_3 l0_4 a0_5 a0_6 a0_7 l0_8 l0_9 a0_10 a0_11 a0_12 l0_13 l0_14 l0_15))) else (none)) else (none)) else (none))) = some r := h
 clear h
 by_cases c4 : a0_0 = 0
 ·
  rw [if_pos c4] at H
  have c4b0 : (a0_0 == 0) = true := beq_iff_eq.mpr c4
  have c4b1 : (a0_0 != 0) = false := bne_eq_false_iff_eq.mpr c4
  clear c4
  obtain rfl := Option.some.inj H
  go_enter Try.func30, Try.ntmps30
  go_wp2_with (first | ((with_reducible refine gate_dst (N := 3) rfl ?_); refine box_event ?hg (N := 3) ?hd (cs := (B44 a0_0 A0_1 l0_1 c0_1 a0_2 a0_3 A0_4 l0_4 c0_4 a0_5 a0_6 a0_7 A0_8 l0_8 c0_8 A0_9 l0_9 c0_9 a0_10 a0_11 a0_12 A0_13 l0_13 c0_13 A0_14 l0_14 c0_14 A0_15 l0_15 c0_15)) (t := 44) ?hr ?_; (case hd => rfl); (case hg => rfl); (case hr => first | (go_simp; done) | (go_simp; rfl)); intro gb363 hg w5 hbox hb; have BK363 := Aside0.mk (hbox); have GW363 := Aside0.mk ((by rw [hg]; exact below_sizeA : w.heap.size ≤ gb363)); have GE363 := GW363; replace HB := Aside0.mk (below_stepA hb); clear hb hbox hg) | ((with_reducible refine gate_dst (N := 5) rfl ?_); refine box_event ?hg (N := 5) ?hd (cs := #[.int .i64 a2_0, .int .i64 a2_1, .int .i64 a2_2, .int .i64 a2_3, .int .i64 a2_4, .int .i64 a2_5]) (t := 27) ?hr ?_; (case hd => rfl); (case hg => rfl); (case hr => first | (go_simp; done) | (go_simp; rfl)); intro gb364 hg w6 hbox hb; have BK364 := Aside0.mk (hbox); have GW364 := Aside0.mk ((by rw [hg]; exact below_sizeA : w.heap.size ≤ gb364)); have GE364 := GW364; have NB363_364 := Aside0.mk ((by rw [hg]; exact Nat.ne_of_lt (blk_ltKA BK363.out) : gb363 ≠ gb364)); have NB364_363 := Aside0.mk NB363_364.out.symm; replace BK363 := Aside0.mk (blk_keepA BK363.out hb); replace HB := Aside0.mk (below_stepA hb); clear hb hbox hg; have hnb7 := NB363_364.out; have hnc7 := NB364_363.out; have hz8 := blk16 BK363.out; have hz9 := blk6 BK364.out))
  go_ret
  exact ⟨by first | rfl | (simp [errW_none, errW_some] <;> rfl) | (simp [*, errW_none, errW_some] <;> rfl), belowA⟩
 ·
  rw [if_neg c4] at H
  have c4b0 : (a0_0 == 0) = false := beq_eq_false_iff_ne.mpr c4
  have c4b1 : (a0_0 != 0) = true := bne_iff_ne.mpr c4
  by_cases c10 : 0 < (l0_1.length : Int)
  case neg => rw [if_neg c10] at H; exact absurd H (by simp)
  rw [if_pos c10] at H
  have c10b0 : decide (0 < (l0_1.length : Int)) = true := decide_eq_true c10
  have c10b1 : decide (0 < l0_1.length) = true := decide_eq_true (by omega)
  clear c10
  by_cases c11 : 0 ≤ (rd l0_1 0)
  case neg => rw [if_neg c11] at H; exact absurd H (by simp)
  rw [if_pos c11] at H
  have c11b0 : decide (0 ≤ (rd l0_1 0)) = true := decide_eq_true c11
  clear c11
  by_cases c12 : (rd l0_1 0) < (l1.length : Int)
  case neg => rw [if_neg c12] at H; exact absurd H (by simp)
  rw [if_pos c12] at H
  have c12b0 : decide ((rd l0_1 0) < (l1.length : Int)) = true := decide_eq_true c12
  clear c12
  by_cases c13 : a0_0 = 3
  ·
   rw [if_pos c13] at H
   have c13b0 : (a0_0 == 3) = true := beq_iff_eq.mpr c13
   have c13b1 : (a0_0 != 3) = false := bne_eq_false_iff_eq.mpr c13
   clear c13
   by_cases c14 : 1 < (l0_1.length : Int)
   case neg => rw [if_neg c14] at H; exact absurd H (by simp)
   rw [if_pos c14] at H
   have c14b0 : decide (1 < (l0_1.length : Int)) = true := decide_eq_true c14
   have c14b1 : decide (1 < l0_1.length) = true := decide_eq_true (by omega)
   clear c14
   by_cases c15 : 0 ≤ (rd l0_1 1)
   case neg => rw [if_neg c15] at H; exact absurd H (by simp)
   rw [if_pos c15] at H
   have c15b0 : decide (0 ≤ (rd l0_1 1)) = true := decide_eq_true c15
   clear c15
   by_cases c16 : (rd l0_1 1) < (l1.length : Int)
   case neg => rw [if_neg c16] at H; exact absurd H (by simp)
   rw [if_pos c16] at H
   have c16b0 : decide ((rd l0_1 1) < (l1.length : Int)) = true := decide_eq_true c16
   clear c16
   obtain ⟨ji17, hji17⟩ : ∃ j_ : Int, (mn (wrap64 (((rd_T37 l1 (rd l0_1 0)).f2) + ((rd_T37 l1 (rd l0_1 1)).f2))) 1099511627776) = j_ := ⟨_, rfl⟩
   replace H : (some ji17) = some r := by first | (rw [hji17] at H; exact H) | (simp only [hji17] at H ⊢; exact H)
   (try (have hji17h : ji17 ≤ 1099511627776 := by (rw [← hji17]; unfold mn; (repeat' split) <;> omega)))
   (try (have hji17g : ji17 ≤ 64 := by omega))
   have hji17_ : (if 1099511627776 < (wrap64 (((rd_T37 l1 (rd l0_1 0)).f2) + ((rd_T37 l1 (rd l0_1 1)).f2))) then 1099511627776 else (wrap64 (((rd_T37 l1 (rd l0_1 0)).f2) + ((rd_T37 l1 (rd l0_1 1)).f2)))) = ji17 := hji17
   obtain rfl := Option.some.inj H
   go_enter Try.func30, Try.ntmps30
   go_wp2_with (first | ((with_reducible refine gate_dst (N := 3) rfl ?_); refine box_event ?hg (N := 3) ?hd (cs := (B44 a0_0 A0_1 l0_1 c0_1 a0_2 a0_3 A0_4 l0_4 c0_4 a0_5 a0_6 a0_7 A0_8 l0_8 c0_8 A0_9 l0_9 c0_9 a0_10 a0_11 a0_12 A0_13 l0_13 c0_13 A0_14 l0_14 c0_14 A0_15 l0_15 c0_15)) (t := 44) ?hr ?_; (case hd => rfl); (case hg => rfl); (case hr => first | (go_simp; done) | (go_simp; rfl)); intro gb363 hg w18 hbox hb; have BK363 := Aside0.mk (hbox); have GW363 := Aside0.mk ((by rw [hg]; exact below_sizeA : w.heap.size ≤ gb363)); have GE363 := GW363; replace HB := Aside0.mk (below_stepA hb); clear hb hbox hg) | ((with_reducible refine gate_dst (N := 5) rfl ?_); refine box_event ?hg (N := 5) ?hd (cs := #[.int .i64 a2_0, .int .i64 a2_1, .int .i64 a2_2, .int .i64 a2_3, .int .i64 a2_4, .int .i64 a2_5]) (t := 27) ?hr ?_; (case hd => rfl); (case hg => rfl); (case hr => first | (go_simp; done) | (go_simp; rfl)); intro gb364 hg w19 hbox hb; have BK364 := Aside0.mk (hbox); have GW364 := Aside0.mk ((by rw [hg]; exact below_sizeA : w.heap.size ≤ gb364)); have GE364 := GW364; have NB363_364 := Aside0.mk ((by rw [hg]; exact Nat.ne_of_lt (blk_ltKA BK363.out) : gb363 ≠ gb364)); have NB364_363 := Aside0.mk NB363_364.out.symm; replace BK363 := Aside0.mk (blk_keepA BK363.out hb); replace HB := Aside0.mk (below_stepA hb); clear hb hbox hg; have hnb20 := NB363_364.out; have hnc20 := NB364_363.out; have hz21 := blk16 BK363.out; have p365 : 0 ≤ (0 : Int) := (by omega); have q365 : 0 < (l0_1.length : Int) := odA; obtain ⟨ad365, e365, hx365_0⟩ := Kd.at_int HR0_1.out 0 p365 q365; cases e365; have qi365 : (0 < l0_1.length) = True := eq_true (by omega); (try rw [show ((0 : Int)).toNat = 0 from rfl] at hx365_0); (try rw [Addr.add_zero'] at hx365_0); replace hx365_0 := pw_cell_below HB.out hx365_0; replace p365 := eq_true p365; replace q365 := eq_true q365; have p366 : 0 ≤ ((rd l0_1 0) : Int) := odA; have q366 : (rd l0_1 0) < (l1.length : Int) := odA; obtain ⟨ad366, e366, hx366_0, hx366_1, hx366_2, hx366_3⟩ := at_T37 HR1.out (rd l0_1 0) p366 q366; cases e366; replace hx366_0 := pw_cell_below HB.out hx366_0; replace hx366_1 := pw_cell_below HB.out hx366_1; replace hx366_2 := pw_cell_below HB.out hx366_2; replace hx366_3 := pw_cell_below HB.out hx366_3; replace p366 := eq_true p366; replace q366 := eq_true q366; have p367 : 0 ≤ (1 : Int) := (by omega); have q367 : 1 < (l0_1.length : Int) := odA; obtain ⟨ad367, e367, hx367_0⟩ := Kd.at_int HR0_1.out 1 p367 q367; obtain rfl : ad365 = ad367 := (by injection e367); (try simp only [show (1 : Int).toNat = 1 from rfl, Nat.reduceMul, Nat.reduceEqDiff, Go.Addr.add, ↓reduceIte] at hx367_0); have qi367 : (1 < l0_1.length) = True := eq_true (by omega); (try rw [show ((1 : Int)).toNat = 1 from rfl] at hx367_0); replace hx367_0 := pw_cell_below HB.out hx367_0; replace p367 := eq_true p367; replace q367 := eq_true q367; have p368 : 0 ≤ ((rd l0_1 1) : Int) := odA; have q368 : (rd l0_1 1) < (l1.length : Int) := odA; obtain ⟨ad368, e368, hx368_0, hx368_1, hx368_2, hx368_3⟩ := at_T37 HR1.out (rd l0_1 1) p368 q368; obtain rfl : ad366 = ad368 := (by injection e368); replace hx368_0 := pw_cell_below HB.out hx368_0; replace hx368_1 := pw_cell_below HB.out hx368_1; replace hx368_2 := pw_cell_below HB.out hx368_2; replace hx368_3 := pw_cell_below HB.out hx368_3; replace p368 := eq_true p368; replace q368 := eq_true q368))
   go_ret
   exact ⟨by first | rfl | (simp [errW_none, errW_some] <;> rfl) | (simp only [← hji17]; first | rfl | (simp [errW_none, errW_some] <;> rfl)) | (simp [*, errW_none, errW_some] <;> rfl), belowA⟩
  ·
   rw [if_neg c13] at H
   have c13b0 : (a0_0 == 3) = false := beq_eq_false_iff_ne.mpr c13
   have c13b1 : (a0_0 != 3) = true := bne_iff_ne.mpr c13
   have HC22 := Aside0.mk H
   clear H
   go_enter Try.func30, Try.ntmps30
   go_upto_if 39 with (first | ((with_reducible refine gate_dst (N := 3) rfl ?_); refine box_event ?hg (N := 3) ?hd (cs := (B44 a0_0 A0_1 l0_1 c0_1 a0_2 a0_3 A0_4 l0_4 c0_4 a0_5 a0_6 a0_7 A0_8 l0_8 c0_8 A0_9 l0_9 c0_9 a0_10 a0_11 a0_12 A0_13 l0_13 c0_13 A0_14 l0_14 c0_14 A0_15 l0_15 c0_15)) (t := 44) ?hr ?_; (case hd => rfl); (case hg => rfl); (case hr => first | (go_simp; done) | (go_simp; rfl)); intro gb363 hg w23 hbox hb; have BK363 := Aside0.mk (hbox); have GW363 := Aside0.mk ((by rw [hg]; exact below_sizeA : w.heap.size ≤ gb363)); have GE363 := GW363; replace HB := Aside0.mk (below_stepA hb); clear hb hbox hg) | ((with_reducible refine gate_dst (N := 5) rfl ?_); refine box_event ?hg (N := 5) ?hd (cs := #[.int .i64 a2_0, .int .i64 a2_1, .int .i64 a2_2, .int .i64 a2_3, .int .i64 a2_4, .int .i64 a2_5]) (t := 27) ?hr ?_; (case hd => rfl); (case hg => rfl); (case hr => first | (go_simp; done) | (go_simp; rfl)); intro gb364 hg w24 hbox hb; have BK364 := Aside0.mk (hbox); have GW364 := Aside0.mk ((by rw [hg]; exact below_sizeA : w.heap.size ≤ gb364)); have GE364 := GW364; have NB363_364 := Aside0.mk ((by rw [hg]; exact Nat.ne_of_lt (blk_ltKA BK363.out) : gb363 ≠ gb364)); have NB364_363 := Aside0.mk NB363_364.out.symm; replace BK363 := Aside0.mk (blk_keepA BK363.out hb); replace HB := Aside0.mk (below_stepA hb); clear hb hbox hg; have hnb25 := NB363_364.out; have hnc25 := NB364_363.out; have hz26 := blk16 BK363.out; have p365 : 0 ≤ (0 : Int) := (by omega); have q365 : 0 < (l0_1.length : Int) := odA; obtain ⟨ad365, e365, hx365_0⟩ := Kd.at_int HR0_1.out 0 p365 q365; cases e365; have qi365 : (0 < l0_1.length) = True := eq_true (by omega); (try rw [show ((0 : Int)).toNat = 0 from rfl] at hx365_0); (try rw [Addr.add_zero'] at hx365_0); replace hx365_0 := pw_cell_below HB.out hx365_0; replace p365 := eq_true p365; replace q365 := eq_true q365; have p366 : 0 ≤ ((rd l0_1 0) : Int) := odA; have q366 : (rd l0_1 0) < (l1.length : Int) := odA; obtain ⟨ad366, e366, hx366_0, hx366_1, hx366_2, hx366_3⟩ := at_T37 HR1.out (rd l0_1 0) p366 q366; cases e366; replace hx366_0 := pw_cell_below HB.out hx366_0; replace hx366_1 := pw_cell_below HB.out hx366_1; replace hx366_2 := pw_cell_below HB.out hx366_2; replace hx366_3 := pw_cell_below HB.out hx366_3; replace p366 := eq_true p366; replace q366 := eq_true q366))
   (try simp only [Act.put, List.setIfInBounds_toArray, List.set_cons_zero, List.set_cons_succ])
   go_cut [39] (fun v39 wc => ∃ (kq : Nat) (x39_21 : Bool), v39 = .bool x39_21 ∧ Aside0 (errataref20_rate.j0 kq l1 ((rd_T37 l1 (rd l0_1 0)).f2) a0_0 x39_21 a0_0 l0_1 a0_2 a0_3 l0_4 a0_5 a0_6 a0_7 l0_8 l0_9 a0_10 a0_11 a0_12 l0_13 l0_14 l0_15 = some r) ∧ Aside0 (kq ≤ k) ∧ Aside0 (wc.heap[gb363]? = some (.cells #[.int .i64 a0_0, (.slice (some ad365) l0_1.length c0_1), .string a0_2, .int .i64 a0_3, (.slice A0_4 l0_4.length c0_4), .int .i64 a0_5, .int .i64 a0_6, .int .i64 a0_7, (.slice A0_8 l0_8.length c0_8), (.slice A0_9 l0_9.length c0_9), .int .i64 a0_10, .int .i64 a0_11, .int .i64 a0_12, (.slice A0_13 l0_13.length c0_13), (.slice A0_14 l0_14.length c0_14), (.slice A0_15 l0_15.length c0_15)] 44 (0, 0))) ∧ Aside0 (wc.heap[gb364]? = some (.cells #[.int .i64 a2_0, .int .i64 a2_1, .int .i64 a2_2, .int .i64 a2_3, .int .i64 a2_4, .int .i64 a2_5] 27 (0, 0))) ∧ Aside0 (Below w.heap.size w wc))
   case first =>
    have H := HC22.out
    clear HC22
    by_cases c27 : a0_0 = 4
    ·
     rw [if_pos c27] at H
     have c27b0 : (a0_0 == 4) = true := beq_iff_eq.mpr c27
     have c27b1 : (a0_0 != 4) = false := bne_eq_false_iff_eq.mpr c27
     clear c27
     (first | rw [c27b0] | (simp only [i64_w, i32_w]; rw [c27b0]) | skip)
     have H' := Aside0.mk H
     clear H
     go_wp2
     go_meet
     case rel => exact ⟨_, ((a0_0 == 4)), (by first | rfl | (simp; done) | (simp [*]; done)), H', ⟨by first | omega | exact Nat.le_refl _⟩, ⟨blk_move BK363.out⟩, ⟨blk_move BK364.out⟩, ⟨by repeat (first | (with_reducible first | exact HB.out | apply below_alloc | apply pw_below_drewN | apply below_drew1 | refine below_set ?_ GE363.out | refine below_set ?_ GE364.out) | exact HB.out)⟩⟩
    ·
     rw [if_neg c27] at H
     have c27b0 : (a0_0 == 4) = false := beq_eq_false_iff_ne.mpr c27
     have c27b1 : (a0_0 != 4) = true := bne_iff_ne.mpr c27
     (first | rw [c27b0] | (simp only [i64_w, i32_w]; rw [c27b0]) | skip)
     have H' := Aside0.mk H
     clear H
     go_wp2
     go_meet
     case rel => exact ⟨_, ((a0_0 == 5)), (by first | rfl | (simp; done) | (simp [*]; done)), H', ⟨by first | omega | exact Nat.le_refl _⟩, ⟨blk_move BK363.out⟩, ⟨blk_move BK364.out⟩, ⟨by repeat (first | (with_reducible first | exact HB.out | apply below_alloc | apply pw_below_drewN | apply below_drew1 | refine below_set ?_ GE363.out | refine below_set ?_ GE364.out) | exact HB.out)⟩⟩
   case rest =>
    clear HC22
    try clear c1
    try clear c2
    try clear p2
    try clear c3
    try clear p3
    try clear q3
    try clear hx3
    try clear qi3
    try clear c4
    try clear c4b0
    try clear c4b1
    try clear p6
    try clear c7
    try clear c10
    try clear c10b0
    try clear c10b1
    try clear c11
    try clear c11b0
    try clear c12
    try clear c12b0
    try clear c13
    try clear c13b0
    try clear c13b1
    try clear c14
    try clear c14b0
    try clear c14b1
    try clear c15
    try clear c15b0
    try clear c16
    try clear c16b0
    try clear c20
    try clear c25
    try clear c27
    try clear c27b0
    try clear c27b1
    try clear hz21
    try clear hz26
    try clear hz8
    try clear hz9
    try clear hx365_0
    try clear hx366_0
    try clear hx366_1
    try clear hx366_2
    try clear hx366_3
    try clear hx367_0
    try clear hx368_0
    try clear hx368_1
    try clear hx368_2
    try clear hx368_3
    try clear p365
    try clear p366
    try clear p367
    try clear p368
    try clear q365
    try clear q366
    try clear q367
    try clear q368
    obtain ⟨kq, x39_21, rfl, HA, HJ21, BK363, BK364, HB⟩ := hcut
    cases kq with
    | zero => exact absurd HA.out (by simp [errataref20_rate.j0])
    | succ kj21 =>
     have H := HA.out
     clear HA
     simp only [errataref20_rate.j0] at H
     by_cases c28 : x39_21 = true
     ·
      subst c28
      rw [if_pos rfl] at H
      replace H := Option.bind_eq_some_iff.mp H
      obtain ⟨t369, A290, H⟩ := H
      try dsimp only at H
      have A29 := Aside0.mk A290
      clear A290
      obtain rfl := Option.some.inj H
      have hnb30 := NB363_364.out
      have hnc30 := NB364_363.out
      have hz31 := blk16 BK363.out
      go_wp2_with (first | ((with_reducible refine gate_callee (f := 48) rfl ?_); refine goesL_ (some 45) rfl rfl Try.func48 (by kernel_rfl) rfl #[.int .i64 ((rd_T37 l1 (rd l0_1 0)).f2), .int .i64 a0_6] rfl mapA ?_; (with_reducible refine (errataref20_times.calls kj21 _ a0_6 t369 _ A29.out).mono ?_); rintro e w32 ⟨rfl, hb⟩; refine ⟨_, rfl, ?_⟩; replace BK363 := Aside0.mk (blk_keepA BK363.out hb); replace BK364 := Aside0.mk (blk_keepA BK364.out hb); replace HB := Aside0.mk (below_stepA hb); (try clear hb)))
      go_ret
      exact ⟨by first | rfl | (simp [errW_none, errW_some] <;> rfl) | (simp [*, errW_none, errW_some] <;> rfl), belowA⟩
     ·
      replace c28 := Bool.eq_false_iff.mpr c28
      subst c28
      rw [if_neg (show ¬ (false = true) by decide)] at H
      by_cases c33 : a0_0 = 6
      ·
       rw [if_pos c33] at H
       have c33b0 : (a0_0 == 6) = true := beq_iff_eq.mpr c33
       have c33b1 : (a0_0 != 6) = false := bne_eq_false_iff_eq.mpr c33
       clear c33
       by_cases c34 : 1 < (l0_1.length : Int)
       case neg => rw [if_neg c34] at H; exact absurd H (by simp)
       rw [if_pos c34] at H
       have c34b0 : decide (1 < (l0_1.length : Int)) = true := decide_eq_true c34
       have c34b1 : decide (1 < l0_1.length) = true := decide_eq_true (by omega)
       clear c34
       by_cases c35 : 0 ≤ (rd l0_1 1)
       case neg => rw [if_neg c35] at H; exact absurd H (by simp)
       rw [if_pos c35] at H
       have c35b0 : decide (0 ≤ (rd l0_1 1)) = true := decide_eq_true c35
       clear c35
       by_cases c36 : (rd l0_1 1) < (l1.length : Int)
       case neg => rw [if_neg c36] at H; exact absurd H (by simp)
       rw [if_pos c36] at H
       have c36b0 : decide ((rd l0_1 1) < (l1.length : Int)) = true := decide_eq_true c36
       clear c36
       replace H := Option.bind_eq_some_iff.mp H
       obtain ⟨t372, A370, H⟩ := H
       try dsimp only at H
       have A37 := Aside0.mk A370
       clear A370
       replace H := Option.bind_eq_some_iff.mp H
       obtain ⟨t373, A380, H⟩ := H
       try dsimp only at H
       have A38 := Aside0.mk A380
       clear A380
       obtain rfl := Option.some.inj H
       try go_wp2
       have n0_ := Aside0.mk (blk_drew BK363.out)
       have n1_ := Aside0.mk (blk_drew BK364.out)
       have n2_ := Aside0.mk (below_drew1 HB.out)
       clear BK363
       clear BK364
       clear HB
       have BK363 := n0_
       have BK364 := n1_
       have HB := n2_
       clear n0_ n1_ n2_
       have p370 : 0 ≤ (1 : Int) := (by omega)
       have q370 : 1 < (l0_1.length : Int) := odA
       obtain ⟨ad370, e370, hx370_0⟩ := Kd.at_int HR0_1.out 1 p370 q370
       have hw370_0 := hx370_0
       (try rw [show ((1 : Int)).toNat = 1 from rfl] at hw370_0)
       (try rw [show 1 * 1 = 1 from rfl] at hw370_0)
       (try simp only [Nat.reduceMul, Nat.reduceEqDiff, Go.Addr.add, ↓reduceIte] at hw370_0)
       obtain rfl : ad365 = ad370 := (by injection e370)
       (try simp only [show (1 : Int).toNat = 1 from rfl, Nat.reduceMul, Nat.reduceEqDiff, Go.Addr.add, ↓reduceIte] at hx370_0)
       have qi370 : (1 < l0_1.length) = True := eq_true (by omega)
       (try rw [show ((1 : Int)).toNat = 1 from rfl] at hx370_0)
       replace hx370_0 := pw_cell_below HB.out hx370_0
       replace p370 := eq_true p370
       replace q370 := eq_true q370
       have p371 : 0 ≤ ((rd l0_1 1) : Int) := odA
       have q371 : (rd l0_1 1) < (l1.length : Int) := odA
       obtain ⟨ad371, e371, hx371_0, hx371_1, hx371_2, hx371_3⟩ := at_T37 HR1.out (rd l0_1 1) p371 q371
       have hw371_3 := hx371_3
       have hw371_2 := hx371_2
       have hw371_1 := hx371_1
       have hw371_0 := hx371_0
       obtain rfl : ad366 = ad371 := (by injection e371)
       replace hx371_0 := pw_cell_below HB.out hx371_0
       replace hx371_1 := pw_cell_below HB.out hx371_1
       replace hx371_2 := pw_cell_below HB.out hx371_2
       replace hx371_3 := pw_cell_below HB.out hx371_3
       replace p371 := eq_true p371
       replace q371 := eq_true q371
       refine start_ (n := 18) (S := fun w' => w'.cell? ⟨gb363, 0, none⟩ = some (.int .i64 a0_0) ∧ w'.cell? ⟨gb363, 1, none⟩ = some (.slice (some ad365) l0_1.length c0_1) ∧ w'.cell? ⟨gb363, 2, none⟩ = some (.string a0_2) ∧ w'.cell? ⟨gb363, 3, none⟩ = some (.int .i64 a0_3) ∧ w'.cell? ⟨gb363, 4, none⟩ = some (.slice A0_4 l0_4.length c0_4) ∧ w'.cell? ⟨gb363, 5, none⟩ = some (.int .i64 a0_5) ∧ w'.cell? ⟨gb363, 6, none⟩ = some (.int .i64 a0_6) ∧ w'.cell? ⟨gb363, 7, none⟩ = some (.int .i64 a0_7) ∧ w'.cell? ⟨gb363, 8, none⟩ = some (.slice A0_8 l0_8.length c0_8) ∧ w'.cell? ⟨gb363, 9, none⟩ = some (.slice A0_9 l0_9.length c0_9) ∧ w'.cell? ⟨gb363, 10, none⟩ = some (.int .i64 a0_10) ∧ w'.cell? ⟨gb363, 11, none⟩ = some (.int .i64 a0_11) ∧ w'.cell? ⟨gb363, 12, none⟩ = some (.int .i64 a0_12) ∧ w'.cell? ⟨gb363, 13, none⟩ = some (.slice A0_13 l0_13.length c0_13) ∧ w'.cell? ⟨gb363, 14, none⟩ = some (.slice A0_14 l0_14.length c0_14) ∧ w'.cell? ⟨gb363, 15, none⟩ = some (.slice A0_15 l0_15.length c0_15) ∧ w'.cell? ⟨ad365.block, ad365.off + 1, none⟩ = some (.int .i64 (rd l0_1 1)) ∧ w'.cell? (ad366.add (((rd l0_1 1)).toNat * 4)) = some (.int .i64 ((rd_T37 l1 (rd l0_1 1)).f0)) ∧ w'.cell? ⟨(ad366.add (((rd l0_1 1)).toNat * 4)).block, (ad366.add (((rd l0_1 1)).toNat * 4)).off + 1, none⟩ = some (.int .i64 ((rd_T37 l1 (rd l0_1 1)).f1)) ∧ w'.cell? ⟨(ad366.add (((rd l0_1 1)).toNat * 4)).block, (ad366.add (((rd l0_1 1)).toNat * 4)).off + 2, none⟩ = some (.int .i64 ((rd_T37 l1 (rd l0_1 1)).f2)) ∧ w'.cell? ⟨(ad366.add (((rd l0_1 1)).toNat * 4)).block, (ad366.add (((rd l0_1 1)).toNat * 4)).off + 3, none⟩ = some (.int .i64 ((rd_T37 l1 (rd l0_1 1)).f3))) (ds := []) #[O,O,O,O,O,O,O,O,O,O,O,O,O,O,O,O,O,O] (by kernel_rfl) rfl rfl ⟨(blk_cell BK363.out 0).trans rfl, (blk_cell BK363.out 1).trans rfl, (blk_cell BK363.out 2).trans rfl, (blk_cell BK363.out 3).trans rfl, (blk_cell BK363.out 4).trans rfl, (blk_cell BK363.out 5).trans rfl, (blk_cell BK363.out 6).trans rfl, (blk_cell BK363.out 7).trans rfl, (blk_cell BK363.out 8).trans rfl, (blk_cell BK363.out 9).trans rfl, (blk_cell BK363.out 10).trans rfl, (blk_cell BK363.out 11).trans rfl, (blk_cell BK363.out 12).trans rfl, (blk_cell BK363.out 13).trans rfl, (blk_cell BK363.out 14).trans rfl, (blk_cell BK363.out 15).trans rfl, (pw_cell_below HB.out hw370_0), (pw_cell_below HB.out hw371_0), (pw_cell_below HB.out hw371_1), (pw_cell_below HB.out hw371_2), (pw_cell_below HB.out hw371_3)⟩ (fun hHeld => ?_); refine with_tabW errataref20_rate.tab11 errataref20_rate.bits11 (fun HT_ HW_ => ?_)
       generalize wc.drew = w39 at BK363 BK364 HB hx370_0 hx371_0 hx371_1 hx371_2 hx371_3 hHeld ⊢
       refine pureA 0 48 #[J,O,O,O,O,O,O,O,O,O,O,O,O,O,O,O,O,O] ?_
       refine pureA 1 49 #[J,J,O,O,O,O,O,O,O,O,O,O,O,O,O,O,O,O] ?_
       refine pureA 2 50 #[J,J,J,O,O,O,O,O,O,O,O,O,O,O,O,O,O,O] ?_
       refine pureA 10 58 #[J,J,J,O,O,O,O,O,O,O,J,O,O,O,O,O,O,O] ?_
       refine pureA 12 60 #[J,J,J,O,O,O,O,O,O,O,J,O,J,O,O,O,O,O] ?_
       refine takeA 3 51 #[J,J,J,J,O,O,O,O,O,O,J,O,J,O,O,O,O,O] ?_
       refine pureA 4 52 #[J,J,J,J,J,O,O,O,O,O,J,O,J,O,O,O,O,O] ?_
       refine takeA 5 53 #[J,J,J,J,J,J,O,O,O,O,J,O,J,O,O,O,O,O] ?_
       refine pureA 6 54 #[J,J,J,J,J,J,J,O,O,O,J,O,J,O,O,O,O,O] ?_
       refine pureA 7 55 #[J,J,J,J,J,J,J,J,O,O,J,O,J,O,O,O,O,O] ?_
       refine takeA 8 56 #[J,J,J,J,J,J,J,J,J,O,J,O,J,O,O,O,O,O] ?_
       refine takeA 11 59 #[J,J,J,J,J,J,J,J,J,O,J,J,J,O,O,O,O,O] ?_
       refine takeA 13 61 #[J,J,J,J,J,J,J,J,J,O,J,J,J,J,O,O,O,O] ?_
       refine pureA 14 62 #[J,J,J,J,J,J,J,J,J,O,J,J,J,J,J,O,O,O] ?_
       refine pureA 15 63 #[J,J,J,J,J,J,J,J,J,O,J,J,J,J,J,J,O,O] ?_
       refine one_ (i := 9) (N := some 57) #[J,J,J,J,J,J,J,J,J,J,J,J,J,J,J,J,O,O] rfl rfl (one_of HT_.out (by kernel_rfl)) (by decide) (fun K hK => ?_)
       refine goes_ Try.func48 (by kernel_rfl) rfl #[.int .i64 ((rd_T37 l1 (rd l0_1 0)).f2), .int .i64 ((rd_T37 l1 (rd l0_1 1)).f2)] (by rfl) rfl rfl mapA ?_
       with_reducible refine (errataref20_times.calls kj21 _ _ t372 _ A37.out).mono ?_
       rintro e w40 ⟨rfl, hb⟩
       refine ⟨_, rfl, ?_⟩
       have n0_ := Aside0.mk (blk_keepA BK363.out hb)
       have n1_ := Aside0.mk (blk_keepA BK364.out hb)
       have n2_ := Aside0.mk (below_stepA hb)
       clear BK363
       clear BK364
       clear HB
       have BK363 := n0_
       have BK364 := n1_
       have HB := n2_
       clear n0_ n1_ n2_
       (try clear hb)
       (try clear hb2)
       (try clear hk)
       (try clear hi)
       refine hK.out _ _ ⟨(blk_cell BK363.out 0).trans rfl, (blk_cell BK363.out 1).trans rfl, (blk_cell BK363.out 2).trans rfl, (blk_cell BK363.out 3).trans rfl, (blk_cell BK363.out 4).trans rfl, (blk_cell BK363.out 5).trans rfl, (blk_cell BK363.out 6).trans rfl, (blk_cell BK363.out 7).trans rfl, (blk_cell BK363.out 8).trans rfl, (blk_cell BK363.out 9).trans rfl, (blk_cell BK363.out 10).trans rfl, (blk_cell BK363.out 11).trans rfl, (blk_cell BK363.out 12).trans rfl, (blk_cell BK363.out 13).trans rfl, (blk_cell BK363.out 14).trans rfl, (blk_cell BK363.out 15).trans rfl, (pw_cell_below HB.out hw370_0), (pw_cell_below HB.out hw371_0), (pw_cell_below HB.out hw371_1), (pw_cell_below HB.out hw371_2), (pw_cell_below HB.out hw371_3)⟩ (fun hHeld => ?_)
       clear hK K
       refine norm_ (a' := ?_) ?_ ?_
       rotate_left
       ·
        show Act.put _ (some 57) _ = _
        simp only [Act.put, List.setIfInBounds_toArray, List.set_cons_zero, List.set_cons_succ, i64_w, i32_w]
        rfl
       refine one_ (i := 16) (N := some 64) #[J,J,J,J,J,J,J,J,J,J,J,J,J,J,J,J,J,O] rfl rfl (one_of HT_.out (by kernel_rfl)) (by decide) (fun K hK => ?_)
       refine goes_ Try.func48 (by kernel_rfl) rfl #[.int .i64 t372, .int .i64 (wrap64 ((wrap64 (a0_10 + a0_11)) + 2))] (by rfl) rfl rfl mapA ?_
       with_reducible refine (errataref20_times.calls kj21 t372 (wrap64 ((wrap64 (a0_10 + a0_11)) + 2)) t373 _ A38.out).mono ?_
       rintro e w41 ⟨rfl, hb⟩
       refine ⟨_, rfl, ?_⟩
       have n0_ := Aside0.mk (blk_keepA BK363.out hb)
       have n1_ := Aside0.mk (blk_keepA BK364.out hb)
       have n2_ := Aside0.mk (below_stepA hb)
       clear BK363
       clear BK364
       clear HB
       have BK363 := n0_
       have BK364 := n1_
       have HB := n2_
       clear n0_ n1_ n2_
       (try clear hb)
       (try clear hb2)
       (try clear hk)
       (try clear hi)
       refine hK.out _ _ ⟨(blk_cell BK363.out 0).trans rfl, (blk_cell BK363.out 1).trans rfl, (blk_cell BK363.out 2).trans rfl, (blk_cell BK363.out 3).trans rfl, (blk_cell BK363.out 4).trans rfl, (blk_cell BK363.out 5).trans rfl, (blk_cell BK363.out 6).trans rfl, (blk_cell BK363.out 7).trans rfl, (blk_cell BK363.out 8).trans rfl, (blk_cell BK363.out 9).trans rfl, (blk_cell BK363.out 10).trans rfl, (blk_cell BK363.out 11).trans rfl, (blk_cell BK363.out 12).trans rfl, (blk_cell BK363.out 13).trans rfl, (blk_cell BK363.out 14).trans rfl, (blk_cell BK363.out 15).trans rfl, (pw_cell_below HB.out hw370_0), (pw_cell_below HB.out hw371_0), (pw_cell_below HB.out hw371_1), (pw_cell_below HB.out hw371_2), (pw_cell_below HB.out hw371_3)⟩ (fun hHeld => ?_)
       clear hK K
       refine norm_ (a' := ?_) ?_ ?_
       rotate_left
       ·
        show Act.put _ (some 64) _ = _
        simp only [Act.put, List.setIfInBounds_toArray, List.set_cons_zero, List.set_cons_succ, i64_w, i32_w]
        rfl
       refine pureA 17 6 #[J,J,J,J,J,J,J,J,J,J,J,J,J,J,J,J,J,J] ?_
       refine done_ (done_of HT_.out (by kernel_rfl)) ?_
       try go_wp2
       go_ret
       exact ⟨by first | rfl | (simp [errW_none, errW_some] <;> rfl) | (simp [*, errW_none, errW_some] <;> rfl), belowA⟩
      ·
       rw [if_neg c33] at H
       have c33b0 : (a0_0 == 6) = false := beq_eq_false_iff_ne.mpr c33
       have c33b1 : (a0_0 != 6) = true := bne_iff_ne.mpr c33
       obtain rfl := Option.some.inj H
       go_wp2
       go_ret
       exact ⟨by first | rfl | (simp [errW_none, errW_some] <;> rfl) | (simp [*, errW_none, errW_some] <;> rfl), belowA⟩

def errataref20_state.l0 : Nat → List (S37) → Int → Int → Int → Int → List Int → ByteArray → Int → List (S93) → Int → Int → Int → List Int → List Int → Int → Int → Int → List (S97) → List (S99) → List (S50) → Int → Int → Int → Int → Int → Int → Option (Int)
  | 0, _, _, _, _, _, _, _, _, _, _, _, _, _, _, _, _, _, _, _, _, _, _, _, _, _, _ => none
  | k + 1, x1, x7, x9, x10, x375000, x375001, x375002, x375003, x375004, x375005, x375006, x375007, x375008, x375009, x375010, x375011, x375012, x375013, x375014, x375015, x376000, x376001, x376002, x376003, x376004, x376005 => if x10 < (x375001.length : Int) then (if 0 ≤ x10 then (if 0 ≤ (rd x375001 x10) then (if (rd x375001 x10) < (x1.length : Int) then ((errataref20_times.f k ((rd_T37 x1 (rd x375001 x10)).f2) (wrap64 ((wrap64 (x376005 + ((rd_T37 x1 (rd x375001 x10)).f1))) + x7))).bind fun t381 => (errataref20_state.l0 k x1 x7 (mn (wrap64 (x9 + t381)) 1099511627776) (wrap64 (x10 + 1)) x375000 x375001 x375002 x375003 x375004 x375005 x375006 x375007 x375008 x375009 x375010 x375011 x375012 x375013 x375014 x375015 x376000 x376001 x376002 x376003 x376004 x376005)) else (none)) else (none)) else (none)) else (some x9)
def errataref20_state.f (k : Nat) (a0_0 : Int) (l0_1 : List Int) (a0_2 : ByteArray) (a0_3 : Int) (l0_4 : List (S93)) (a0_5 : Int) (a0_6 : Int) (a0_7 : Int) (l0_8 : List Int) (l0_9 : List Int) (a0_10 : Int) (a0_11 : Int) (a0_12 : Int) (l0_13 : List (S97)) (l0_14 : List (S99)) (l0_15 : List (S50)) (l1 : List (S37)) (a2_0 : Int) (a2_1 : Int) (a2_2 : Int) (a2_3 : Int) (a2_4 : Int) (a2_5 : Int) : Option (Int) := if a0_0 ≤ 3 then (some 0) else ((errataref20_Own.f a0_0 l0_1 a0_2 a0_3 l0_4 a0_5 a0_6 a0_7 l0_8 l0_9 a0_10 a0_11 a0_12 l0_13 l0_14 l0_15).bind fun bt376 => (errataref20_state.l0 k l1 bt376.1 0 0 a0_0 l0_1 a0_2 a0_3 l0_4 a0_5 a0_6 a0_7 l0_8 l0_9 a0_10 a0_11 a0_12 l0_13 l0_14 l0_15 a2_0 a2_1 a2_2 a2_3 a2_4 a2_5))
set_option maxHeartbeats 8000000 in
set_option maxRecDepth 100000 in
theorem errataref20_state.calls (k : Nat) (a0_0 : Int) (A0_1 : Option Addr) (c0_1 : Nat) (l0_1 : List Int) (a0_2 : ByteArray) (a0_3 : Int) (A0_4 : Option Addr) (c0_4 : Nat) (l0_4 : List (S93)) (a0_5 : Int) (a0_6 : Int) (a0_7 : Int) (A0_8 : Option Addr) (c0_8 : Nat) (l0_8 : List Int) (A0_9 : Option Addr) (c0_9 : Nat) (l0_9 : List Int) (a0_10 : Int) (a0_11 : Int) (a0_12 : Int) (A0_13 : Option Addr) (c0_13 : Nat) (l0_13 : List (S97)) (A0_14 : Option Addr) (c0_14 : Nat) (l0_14 : List (S99)) (A0_15 : Option Addr) (c0_15 : Nat) (l0_15 : List (S50)) (A1 : Option Addr) (c1 : Nat) (l1 : List (S37)) (a2_0 : Int) (a2_1 : Int) (a2_2 : Int) (a2_3 : Int) (a2_4 : Int) (a2_5 : Int) (r : Int) (w : World) (hr0_1 : Kd.C (Kd.int .i64) w A0_1 l0_1.length l0_1) (hc0_1 : l0_1.length ≤ c0_1) (hr0_4 : Kd.C k93 w A0_4 l0_4.length l0_4) (hc0_4 : l0_4.length ≤ c0_4) (hr0_8 : Kd.C (Kd.int .i64) w A0_8 l0_8.length l0_8) (hc0_8 : l0_8.length ≤ c0_8) (hr0_9 : Kd.C (Kd.int .i64) w A0_9 l0_9.length l0_9) (hc0_9 : l0_9.length ≤ c0_9) (hr0_13 : Kd.C k97 w A0_13 l0_13.length l0_13) (hc0_13 : l0_13.length ≤ c0_13) (hr0_14 : Kd.C k99 w A0_14 l0_14.length l0_14) (hc0_14 : l0_14.length ≤ c0_14) (hr0_15 : Kd.C k50 w A0_15 l0_15.length l0_15) (hc0_15 : l0_15.length ≤ c0_15) (hr1 : Kd.C k37 w A1 l1.length l1) (hc1 : l1.length ≤ c1) (h : errataref20_state.f k a0_0 l0_1 a0_2 a0_3 l0_4 a0_5 a0_6 a0_7 l0_8 l0_9 a0_10 a0_11 a0_12 l0_13 l0_14 l0_15 l1 a2_0 a2_1 a2_2 a2_3 a2_4 a2_5 = some r) :
    Calls Try.prog 31 #[.agg #[.int .i64 a0_0, .slice A0_1 l0_1.length c0_1, .string a0_2, .int .i64 a0_3, .slice A0_4 l0_4.length c0_4, .int .i64 a0_5, .int .i64 a0_6, .int .i64 a0_7, .slice A0_8 l0_8.length c0_8, .slice A0_9 l0_9.length c0_9, .int .i64 a0_10, .int .i64 a0_11, .int .i64 a0_12, .slice A0_13 l0_13.length c0_13, .slice A0_14 l0_14.length c0_14, .slice A0_15 l0_15.length c0_15], .slice A1 l1.length c1, .agg #[.int .i64 a2_0, .int .i64 a2_1, .int .i64 a2_2, .int .i64 a2_3, .int .i64 a2_4, .int .i64 a2_5]] w fun e w' => e = .returned (.int .i64 r) ∧ Below w.heap.size w w' := by
 have hu44 := Try.underlying44
 have hu27 := Try.underlying27
 have hu37 := Try.underlying37
 have HR0_1 := Aside0.mk hr0_1
 have HC0_1 := Aside0.mk hc0_1
 clear hr0_1 hc0_1
 have HR0_4 := Aside0.mk hr0_4
 have HC0_4 := Aside0.mk hc0_4
 clear hr0_4 hc0_4
 have HR0_8 := Aside0.mk hr0_8
 have HC0_8 := Aside0.mk hc0_8
 clear hr0_8 hc0_8
 have HR0_9 := Aside0.mk hr0_9
 have HC0_9 := Aside0.mk hc0_9
 clear hr0_9 hc0_9
 have HR0_13 := Aside0.mk hr0_13
 have HC0_13 := Aside0.mk hc0_13
 clear hr0_13 hc0_13
 have HR0_14 := Aside0.mk hr0_14
 have HC0_14 := Aside0.mk hc0_14
 clear hr0_14 hc0_14
 have HR0_15 := Aside0.mk hr0_15
 have HC0_15 := Aside0.mk hc0_15
 clear hr0_15 hc0_15
 have HR1 := Aside0.mk hr1
 have HC1 := Aside0.mk hc1
 clear hr1 hc1
 have HB := Aside0.mk (Below.refl w.heap.size w)
 have H : (if a0_0 ≤ 3 then (some 0) else ((errataref20_Own.f a0_0 l0_1 a0_2 a0_3 l0_4 a0_5 a0_6 a0_7 l0_8 l0_9 a0_10 a0_11 a0_12 l0_13 l0_14 l0_15).bind fun bt376 => (errataref20_state.l0 k l1 bt376.1 0 0 a0_0 l0_1 a0_2 a0_3 l0_4 a0_5 a0_6 a0_7 l0_8 l0_9 a0_10 a0_11 a0_12 l0_13 l0_14 l0_15 a2_0 a2_1 a2_2 a2_3 a2_4 a2_5))) = some r := h
 clear h
 by_cases c4 : a0_0 ≤ 3
 ·
  rw [if_pos c4] at H
  have c4b0 : decide (a0_0 ≤ 3) = true := decide_eq_true c4
  clear c4
  obtain rfl := Option.some.inj H
  go_enter Try.func31, Try.ntmps31
  go_wp2_with (first | ((with_reducible refine gate_dst (N := 3) rfl ?_); refine box_event ?hg (N := 3) ?hd (cs := (B44 a0_0 A0_1 l0_1 c0_1 a0_2 a0_3 A0_4 l0_4 c0_4 a0_5 a0_6 a0_7 A0_8 l0_8 c0_8 A0_9 l0_9 c0_9 a0_10 a0_11 a0_12 A0_13 l0_13 c0_13 A0_14 l0_14 c0_14 A0_15 l0_15 c0_15)) (t := 44) ?hr ?_; (case hd => rfl); (case hg => rfl); (case hr => first | (go_simp; done) | (go_simp; rfl)); intro gb374 hg w5 hbox hb; have BK374 := Aside0.mk (hbox); have GW374 := Aside0.mk ((by rw [hg]; exact below_sizeA : w.heap.size ≤ gb374)); have GE374 := GW374; replace HB := Aside0.mk (below_stepA hb); clear hb hbox hg) | ((with_reducible refine gate_dst (N := 5) rfl ?_); refine box_event ?hg (N := 5) ?hd (cs := #[.int .i64 a2_0, .int .i64 a2_1, .int .i64 a2_2, .int .i64 a2_3, .int .i64 a2_4, .int .i64 a2_5]) (t := 27) ?hr ?_; (case hd => rfl); (case hg => rfl); (case hr => first | (go_simp; done) | (go_simp; rfl)); intro gb375 hg w6 hbox hb; have BK375 := Aside0.mk (hbox); have GW375 := Aside0.mk ((by rw [hg]; exact below_sizeA : w.heap.size ≤ gb375)); have GE375 := GW375; have NB374_375 := Aside0.mk ((by rw [hg]; exact Nat.ne_of_lt (blk_ltKA BK374.out) : gb374 ≠ gb375)); have NB375_374 := Aside0.mk NB374_375.out.symm; replace BK374 := Aside0.mk (blk_keepA BK374.out hb); replace HB := Aside0.mk (below_stepA hb); clear hb hbox hg; have hnb7 := NB374_375.out; have hnc7 := NB375_374.out; have hz8 := blk16 BK374.out))
  go_ret
  exact ⟨by first | rfl | (simp [errW_none, errW_some] <;> rfl) | (simp [*, errW_none, errW_some] <;> rfl), belowA⟩
 ·
  rw [if_neg c4] at H
  have c4b0 : decide (a0_0 ≤ 3) = false := decide_eq_false c4
  clear c4
  replace H := Option.bind_eq_some_iff.mp H
  obtain ⟨⟨t376, t377⟩, A90, H⟩ := H
  try dsimp only at H
  have A9 := Aside0.mk A90
  clear A90
  have H' := Aside0.mk H
  clear H
  go_enter Try.func31, Try.ntmps31
  go_wp2_with (first | ((with_reducible refine gate_dst (N := 3) rfl ?_); refine box_event ?hg (N := 3) ?hd (cs := (B44 a0_0 A0_1 l0_1 c0_1 a0_2 a0_3 A0_4 l0_4 c0_4 a0_5 a0_6 a0_7 A0_8 l0_8 c0_8 A0_9 l0_9 c0_9 a0_10 a0_11 a0_12 A0_13 l0_13 c0_13 A0_14 l0_14 c0_14 A0_15 l0_15 c0_15)) (t := 44) ?hr ?_; (case hd => rfl); (case hg => rfl); (case hr => first | (go_simp; done) | (go_simp; rfl)); intro gb374 hg w10 hbox hb; have BK374 := Aside0.mk (hbox); have GW374 := Aside0.mk ((by rw [hg]; exact below_sizeA : w.heap.size ≤ gb374)); have GE374 := GW374; replace HB := Aside0.mk (below_stepA hb); clear hb hbox hg) | ((with_reducible refine gate_dst (N := 5) rfl ?_); refine box_event ?hg (N := 5) ?hd (cs := #[.int .i64 a2_0, .int .i64 a2_1, .int .i64 a2_2, .int .i64 a2_3, .int .i64 a2_4, .int .i64 a2_5]) (t := 27) ?hr ?_; (case hd => rfl); (case hg => rfl); (case hr => first | (go_simp; done) | (go_simp; rfl)); intro gb375 hg w11 hbox hb; have BK375 := Aside0.mk (hbox); have GW375 := Aside0.mk ((by rw [hg]; exact below_sizeA : w.heap.size ≤ gb375)); have GE375 := GW375; have NB374_375 := Aside0.mk ((by rw [hg]; exact Nat.ne_of_lt (blk_ltKA BK374.out) : gb374 ≠ gb375)); have NB375_374 := Aside0.mk NB374_375.out.symm; replace BK374 := Aside0.mk (blk_keepA BK374.out hb); replace HB := Aside0.mk (below_stepA hb); clear hb hbox hg; have hnb12 := NB374_375.out; have hnc12 := NB375_374.out; have hz13 := blk16 BK374.out) | ((with_reducible refine gate_callee (f := 18) rfl ?_); refine goesL_ (some 17) rfl rfl Try.func18 (by kernel_rfl) rfl #[.agg (B44 a0_0 A0_1 l0_1 c0_1 a0_2 a0_3 A0_4 l0_4 c0_4 a0_5 a0_6 a0_7 A0_8 l0_8 c0_8 A0_9 l0_9 c0_9 a0_10 a0_11 a0_12 A0_13 l0_13 c0_13 A0_14 l0_14 c0_14 A0_15 l0_15 c0_15)] rfl mapA ?_; (with_reducible refine (errataref20_Own.calls a0_0 _ _ l0_1 a0_2 a0_3 _ _ l0_4 a0_5 a0_6 a0_7 _ _ l0_8 _ _ l0_9 a0_10 a0_11 a0_12 _ _ l0_13 _ _ l0_14 _ _ l0_15 t376 t377 _ (c_belowA HR0_1.out) HC0_1.out (c_belowA HR0_4.out) HC0_4.out (c_belowA HR0_8.out) HC0_8.out (c_belowA HR0_9.out) HC0_9.out (c_belowA HR0_13.out) HC0_13.out (c_belowA HR0_14.out) HC0_14.out (c_belowA HR0_15.out) HC0_15.out A9.out).mono ?_); rintro e w14 ⟨rfl, hb⟩; refine ⟨_, rfl, ?_⟩; replace BK374 := Aside0.mk (blk_keepA BK374.out hb); replace BK375 := Aside0.mk (blk_keepA BK375.out hb); replace HB := Aside0.mk (below_stepA hb); (try clear hb)))
  go_loopg [9, 10] k (fun kq v9 v10 w' => ∃ (x9_1 : Int) (x10_1 : Int), v9 = .int .i64 x9_1 ∧ v10 = .int .i64 x10_1 ∧ Aside0 (errataref20_state.l0 kq l1 t376 x9_1 x10_1 a0_0 l0_1 a0_2 a0_3 l0_4 a0_5 a0_6 a0_7 l0_8 l0_9 a0_10 a0_11 a0_12 l0_13 l0_14 l0_15 a2_0 a2_1 a2_2 a2_3 a2_4 a2_5 = some r) ∧ Aside0 (kq ≤ k) ∧ Aside0 (w'.heap[gb374]? = some (.cells #[.int .i64 a0_0, (.slice A0_1 l0_1.length c0_1), .string a0_2, .int .i64 a0_3, (.slice A0_4 l0_4.length c0_4), .int .i64 a0_5, .int .i64 a0_6, .int .i64 a0_7, (.slice A0_8 l0_8.length c0_8), (.slice A0_9 l0_9.length c0_9), .int .i64 a0_10, .int .i64 a0_11, .int .i64 a0_12, (.slice A0_13 l0_13.length c0_13), (.slice A0_14 l0_14.length c0_14), (.slice A0_15 l0_15.length c0_15)] 44 (0, 0))) ∧ Aside0 (w'.heap[gb375]? = some (.cells #[.int .i64 a2_0, .int .i64 a2_1, .int .i64 a2_2, .int .i64 a2_3, .int .i64 a2_4, .int .i64 a2_5] 27 (0, 0))) ∧ Aside0 (Below w.heap.size w w'))
  case atStart => exact ⟨(0), (0), (by first | rfl | (simp; done) | (simp [*]; done)), (by first | rfl | (simp; done) | (simp [*]; done)), H', ⟨Nat.le_refl _⟩, ⟨blk_move BK374.out⟩, ⟨blk_move BK375.out⟩, ⟨by repeat (first | (with_reducible first | exact HB.out | apply below_alloc | apply pw_below_drewN | apply below_drew1 | refine below_set ?_ GE374.out | refine below_set ?_ GE375.out) | exact HB.out)⟩⟩
  case round =>
   clear H'
   try clear c1
   try clear p2
   try clear c3
   try clear c4
   try clear c4b0
   try clear c7
   try clear c12
   try clear hz13
   try clear hz8
   obtain ⟨x9_1, x10_1, rfl, rfl, HA, HK1, BK374, BK375, HB⟩ := hrel
   cases gk with
   | zero => exact absurd HA.out (by simp [errataref20_state.l0])
   | succ k1 =>
    have H := HA.out
    clear HA
    simp only [errataref20_state.l0] at H
    by_cases c15 : x10_1 < (l0_1.length : Int)
    ·
     rw [if_pos c15] at H
     have c15b0 : decide (x10_1 < (l0_1.length : Int)) = true := decide_eq_true c15
     clear c15
     by_cases c16 : 0 ≤ x10_1
     case neg => rw [if_neg c16] at H; exact absurd H (by simp)
     rw [if_pos c16] at H
     have c16b0 : decide (0 ≤ x10_1) = true := decide_eq_true c16
     clear c16
     by_cases c17 : 0 ≤ (rd l0_1 x10_1)
     case neg => rw [if_neg c17] at H; exact absurd H (by simp)
     rw [if_pos c17] at H
     have c17b0 : decide (0 ≤ (rd l0_1 x10_1)) = true := decide_eq_true c17
     clear c17
     by_cases c18 : (rd l0_1 x10_1) < (l1.length : Int)
     case neg => rw [if_neg c18] at H; exact absurd H (by simp)
     rw [if_pos c18] at H
     have c18b0 : decide ((rd l0_1 x10_1) < (l1.length : Int)) = true := decide_eq_true c18
     clear c18
     replace H := Option.bind_eq_some_iff.mp H
     obtain ⟨t381, A190, H⟩ := H
     try dsimp only at H
     have A19 := Aside0.mk A190
     clear A190
     obtain ⟨ji20, hji20⟩ : ∃ j_ : Int, (mn (wrap64 (x9_1 + t381)) 1099511627776) = j_ := ⟨_, rfl⟩
     replace H : (errataref20_state.l0 k1 l1 t376 ji20 (wrap64 (x10_1 + 1)) a0_0 l0_1 a0_2 a0_3 l0_4 a0_5 a0_6 a0_7 l0_8 l0_9 a0_10 a0_11 a0_12 l0_13 l0_14 l0_15 a2_0 a2_1 a2_2 a2_3 a2_4 a2_5) = some r := by first | (rw [hji20] at H; exact H) | (simp only [hji20] at H ⊢; exact H)
     (try rw [hji20] at A19)
     have hji20_ : (if 1099511627776 < (wrap64 (x9_1 + t381)) then 1099511627776 else (wrap64 (x9_1 + t381))) = ji20 := hji20
     have H' := Aside0.mk H
     clear H
     have hnb21 := NB374_375.out
     have hnc21 := NB375_374.out
     have hz22 := blk16 BK374.out
     have p378 : 0 ≤ (x10_1 : Int) := odA
     have q378 : x10_1 < (l0_1.length : Int) := odA
     obtain ⟨ad378, e378, hx378_0⟩ := Kd.at_int HR0_1.out x10_1 p378 q378
     cases e378
     replace hx378_0 := pw_cell_below HB.out hx378_0
     replace p378 := eq_true p378
     replace q378 := eq_true q378
     have p379 : 0 ≤ ((rd l0_1 x10_1) : Int) := odA
     have q379 : (rd l0_1 x10_1) < (l1.length : Int) := odA
     obtain ⟨ad379, e379, hx379_0, hx379_1, hx379_2, hx379_3⟩ := at_T37 HR1.out (rd l0_1 x10_1) p379 q379
     cases e379
     replace hx379_0 := pw_cell_below HB.out hx379_0
     replace hx379_1 := pw_cell_below HB.out hx379_1
     replace hx379_2 := pw_cell_below HB.out hx379_2
     replace hx379_3 := pw_cell_below HB.out hx379_3
     replace p379 := eq_true p379
     replace q379 := eq_true q379
     go_wp2_with (first | ((with_reducible refine gate_dst (N := 11) rfl ?_); refine box_event ?hg (N := 11) ?hd (cs := #[.int .i64 0, .int .i64 0, .int .i64 0, .int .i64 0]) (t := 37) ?hr ?_; (case hd => rfl); (case hg => rfl); (case hr => first | (go_simp; done) | (go_simp; rfl)); intro gb380 hg w23 hbox hb; have BK380 := Aside0.mk (hbox); have GW380 := Aside0.mk ((by rw [hg]; exact below_sizeA : w.heap.size ≤ gb380)); have GE380 := GW380; have NB374_380 := Aside0.mk ((by rw [hg]; exact Nat.ne_of_lt (blk_ltKA BK374.out) : gb374 ≠ gb380)); have NB380_374 := Aside0.mk NB374_380.out.symm; have NB375_380 := Aside0.mk ((by rw [hg]; exact Nat.ne_of_lt (blk_ltKA BK375.out) : gb375 ≠ gb380)); have NB380_375 := Aside0.mk NB375_380.out.symm; replace BK374 := Aside0.mk (blk_keepA BK374.out hb); replace BK375 := Aside0.mk (blk_keepA BK375.out hb); replace HB := Aside0.mk (below_stepA hb); clear hb hbox hg; have hnb24 := NB380_374.out; have hnc24 := NB374_380.out; have hnb25 := NB380_375.out; have hnc25 := NB375_380.out; have hz26 := blk4 BK380.out; have hz27 := blk6 BK375.out) | ((with_reducible refine gate_callee (f := 48) rfl ?_); refine goesL_ (some 45) rfl rfl Try.func48 (by kernel_rfl) rfl #[.int .i64 ((rd_T37 l1 (rd l0_1 x10_1)).f2), .int .i64 (wrap64 ((wrap64 (a2_5 + ((rd_T37 l1 (rd l0_1 x10_1)).f1))) + t376))] rfl mapA ?_; (with_reducible refine (errataref20_times.calls k1 _ (wrap64 ((wrap64 (a2_5 + ((rd_T37 l1 (rd l0_1 x10_1)).f1))) + t376)) t381 _ A19.out).mono ?_); rintro e w28 ⟨rfl, hb⟩; refine ⟨_, rfl, ?_⟩; replace BK374 := Aside0.mk (blk_keepA BK374.out hb); replace BK375 := Aside0.mk (blk_keepA BK375.out hb); replace BK380 := Aside0.mk (blk_below (g := gb380) (o := .cells #[.int .i64 ((rd_T37 l1 (rd l0_1 x10_1)).f0), .int .i64 ((rd_T37 l1 (rd l0_1 x10_1)).f1), .int .i64 ((rd_T37 l1 (rd l0_1 x10_1)).f2), .int .i64 ((rd_T37 l1 (rd l0_1 x10_1)).f3)] 37 (0, 0)) (blk_move BK380.out) hb); replace HB := Aside0.mk (below_stepA hb); (try clear hb)))
     go_roundg k1
     case measure => have := HK1.out; omega
     case rel => exact ⟨(ji20), (wrap64 (x10_1 + 1)), (by first | rfl | (simp; done) | (simp only [← hji20] <;> (first | rfl | simp)) | (simp [*]; done)), (by first | rfl | (simp; done) | (simp [*]; done)), H', ⟨by have := HK1.out; omega⟩, ⟨blk_move BK374.out⟩, ⟨blk_move BK375.out⟩, ⟨by repeat (first | (with_reducible first | exact HB.out | apply below_alloc | apply pw_below_drewN | apply below_drew1 | refine below_set ?_ GE374.out | refine below_set ?_ GE375.out | refine below_set ?_ GE380.out) | exact HB.out)⟩⟩
    ·
     rw [if_neg c15] at H
     have c15b0 : decide (x10_1 < (l0_1.length : Int)) = false := decide_eq_false c15
     clear c15
     obtain rfl := Option.some.inj H
     have hnb29 := NB374_375.out
     have hnc29 := NB375_374.out
     have hz30 := blk16 BK374.out
     go_wp2
     go_ret
     exact ⟨by first | rfl | (simp [errW_none, errW_some] <;> rfl) | (simp [*, errW_none, errW_some] <;> rfl), belowA⟩

end Go.Proofs.Yteoljddobfnfiaa.PB
end
