/- Part 6 of a proof: texts of this claim, joined by a program of this session's work; what is proved stands in the last part. No condition. -/
import Derived.Test.YteoljddobfnfiaaKA5
section
namespace Go.Proofs.Yteoljddobfnfiaa.PB
open Go.RowKit Go.Proofs.YteoljddobfnfiaaW.PrintWords Go.Proofs.YteoljddobfnfiaaW.PrintLast Go.Proofs.YteoljddobfnfiaaW.PrintMore
attribute [local go_sem] max2_int min2_int max_two min_two max_three min_three max_four min_four
attribute [local go_sem ↓ high] Go.Proofs.Yteoljddobfnfiaa.My.ld44_eq Go.Proofs.Yteoljddobfnfiaa.My.st44_eq Go.Proofs.Yteoljddobfnfiaa.My.ld27_eq Go.Proofs.Yteoljddobfnfiaa.My.st27_eq Go.Proofs.Yteoljddobfnfiaa.My.ld37_eq Go.Proofs.Yteoljddobfnfiaa.My.st37_eq Go.Proofs.Yteoljddobfnfiaa.My.ld65_eq Go.Proofs.Yteoljddobfnfiaa.My.st65_eq
attribute [local go_sem high] Go.Proofs.Yteoljddobfnfiaa.My.ld44_run Go.Proofs.Yteoljddobfnfiaa.My.st44_run Go.Proofs.Yteoljddobfnfiaa.My.ld27_run Go.Proofs.Yteoljddobfnfiaa.My.st27_run Go.Proofs.Yteoljddobfnfiaa.My.ld37_run Go.Proofs.Yteoljddobfnfiaa.My.st37_run Go.Proofs.Yteoljddobfnfiaa.My.ld65_run Go.Proofs.Yteoljddobfnfiaa.My.st65_run
open Go.Proofs.Yteoljddobfnfiaa.My
attribute [local go_sem] cell_map run_store_fnV one_int one_bool one_string one_slice one_fnV
set_option linter.unusedVariables false
set_option linter.unusedSimpArgs false

mutual
def erratalaw20_path.l0 : Nat → Int → List Int → List Int → Int → List (S95) → List (S44) → Option (Int × Int)
  | 0, _, _, _, _, _, _ => none
  | k + 1, x1, x6, x7, x8, x220000, x220001 => if x8 < (x220001.length : Int) then (if 0 ≤ x8 then ((bounds_Own.f ((rd_T44 x220001 x8).f0) ((rd_T44 x220001 x8).f1) ((rd_T44 x220001 x8).f2) ((rd_T44 x220001 x8).f3) ((rd_T44 x220001 x8).f4) ((rd_T44 x220001 x8).f5) ((rd_T44 x220001 x8).f6) ((rd_T44 x220001 x8).f7) ((rd_T44 x220001 x8).f8) ((rd_T44 x220001 x8).f9) ((rd_T44 x220001 x8).f10) ((rd_T44 x220001 x8).f11) ((rd_T44 x220001 x8).f12) ((rd_T44 x220001 x8).f13) ((rd_T44 x220001 x8).f14) ((rd_T44 x220001 x8).f15)).bind fun bt229 => (erratalaw20_path.l1 k x1 x6 x7 x8 bt229.1 bt229.2 ((rd_T44 x220001 x8).f1) 0 x220000 x220001)) else (none)) else (if 0 ≤ x1 then (if x1 < (x6.length : Int) then (if x1 < (x7.length : Int) then (some (rd x6 x1, rd x7 x1)) else (none)) else (none)) else (none))
def erratalaw20_path.l1 : Nat → Int → List Int → List Int → Int → Int → Int → List Int → Int → List (S95) → List (S44) → Option (Int × Int)
  | 0, _, _, _, _, _, _, _, _, _, _ => none
  | k + 1, x1, x6, x7, x8, x9, x10, x11, x12, x220000, x220001 => if x12 < (x11.length : Int) then (if 0 ≤ x8 then (if x8 < (x6.length : Int) then (if 0 ≤ x12 then (if 0 ≤ (rd x11 x12) then (if (rd x11 x12) < (x6.length : Int) then (if x8 < (x7.length : Int) then (if (rd x11 x12) < (x7.length : Int) then (erratalaw20_path.l1 k x1 (x6.set (x8 : Int).toNat (mx (rd x6 x8) (wrap64 ((rd x6 (rd x11 x12)) + x9)))) (x7.set (x8 : Int).toNat (mx (rd x7 x8) (wrap64 ((rd x7 (rd x11 x12)) + x10)))) x8 x9 x10 x11 (wrap64 (x12 + 1)) x220000 x220001) else (none)) else (none)) else (none)) else (none)) else (none)) else (none)) else (none)) else (if (x11.length : Int) = 0 then (if 0 ≤ x8 then (if x8 < (x6.length : Int) then (if x8 < (x7.length : Int) then (erratalaw20_path.l0 k x1 (x6.set (x8 : Int).toNat x9) (x7.set (x8 : Int).toNat x10) (wrap64 (x8 + 1)) x220000 x220001) else (none)) else (none)) else (none)) else (erratalaw20_path.l0 k x1 x6 x7 (wrap64 (x8 + 1)) x220000 x220001))
end
def erratalaw20_path.f (k : Nat) (l0_0 : List (S95)) (l0_1 : List (S44)) (a1 : Int) : Option (Int × Int) := if 0 ≤ (l0_1.length : Int) then (if ((l0_1.length : Int) : Int).toNat ≤ 35184372088832 then (erratalaw20_path.l0 k a1 (List.replicate ((l0_1.length : Int) : Int).toNat 0) (List.replicate ((l0_1.length : Int) : Int).toNat 0) 0 l0_0 l0_1) else (none)) else (none)
def erratalaw20_path.T11 : Bool × List (List Nat × List Nat) := (true, [([], []), ([], []), ([], []), ([], []), ([2, 3], [2, 3]), ([4], [4]), ([], []), ([], []), ([], []), ([7, 8], [7, 8]), ([9], [9]), ([6, 10], [6, 10]), ([11], [11]), ([], []), ([12, 13], [12, 13]), ([5, 14], [5, 14]), ([0, 1, 0, 1, 2, 3, 4, 5, 6, 7, 8, 9, 10, 11, 12, 13, 14, 15], [0, 1]), ([16, 15, 0, 1, 2, 3, 4, 5, 6, 7, 8, 9, 10, 11, 12, 13, 14, 15], [15, 16])])
def erratalaw20_path.B11 : List Nat := [0, 0, 0, 0, 12, 28, 0, 0, 0, 384, 896, 1984, 4032, 0, 16320, 32764, 65535, 131071]
theorem erratalaw20_path.tab11 : rtab .any (opsOf Try.f10 11) = erratalaw20_path.T11 := by kernel_rfl
theorem erratalaw20_path.bits11 : waitsOk erratalaw20_path.T11.2 erratalaw20_path.B11 = true := by kernel_rfl
def erratalaw20_path.T12 : Bool × List (List Nat × List Nat) := (true, [([], []), ([], []), ([], []), ([], []), ([2, 3], [2, 3]), ([4], [4]), ([], []), ([], []), ([], []), ([7, 8], [7, 8]), ([9], [9]), ([6, 10], [6, 10]), ([11], [11]), ([], []), ([12, 13], [12, 13]), ([5, 14], [5, 14]), ([0, 1, 0, 1, 2, 3, 4, 5, 6, 7, 8, 9, 10, 11, 12, 13, 14, 15], [0, 1]), ([16, 15, 0, 1, 2, 3, 4, 5, 6, 7, 8, 9, 10, 11, 12, 13, 14, 15], [15, 16])])
def erratalaw20_path.B12 : List Nat := [0, 0, 0, 0, 12, 28, 0, 0, 0, 384, 896, 1984, 4032, 0, 16320, 32764, 65535, 131071]
theorem erratalaw20_path.tab12 : rtab .any (opsOf Try.f10 12) = erratalaw20_path.T12 := by kernel_rfl
theorem erratalaw20_path.bits12 : waitsOk erratalaw20_path.T12.2 erratalaw20_path.B12 = true := by kernel_rfl
def erratalaw20_path.T16 : Bool × List (List Nat × List Nat) := (true, [([], []), ([], []), ([0, 1], [0, 1]), ([2], [2]), ([], []), ([], []), ([4, 5], [4, 5]), ([6], [6]), ([3, 0, 1, 2, 3], [3]), ([7, 8, 0, 1, 2, 3, 4, 5, 6, 7, 8], [7])])
def erratalaw20_path.B16 : List Nat := [0, 0, 3, 7, 0, 0, 48, 112, 15, 511]
theorem erratalaw20_path.tab16 : rtab .any (opsOf Try.f10 16) = erratalaw20_path.T16 := by kernel_rfl
theorem erratalaw20_path.bits16 : waitsOk erratalaw20_path.T16.2 erratalaw20_path.B16 = true := by kernel_rfl
set_option maxHeartbeats 8000000 in
set_option maxRecDepth 100000 in
theorem erratalaw20_path.calls (k : Nat) (A0_0 : Option Addr) (c0_0 : Nat) (l0_0 : List (S95)) (A0_1 : Option Addr) (c0_1 : Nat) (l0_1 : List (S44)) (a1 : Int) (r1 : Int) (r2 : Int) (w : World) (hr0_0 : Kd.C k95 w A0_0 l0_0.length l0_0) (hc0_0 : l0_0.length ≤ c0_0) (hr0_1 : Kd.C k44 w A0_1 l0_1.length l0_1) (hc0_1 : l0_1.length ≤ c0_1) (h : erratalaw20_path.f k l0_0 l0_1 a1 = some (r1, r2)) :
    Calls Try.prog 10 #[.agg #[.slice A0_0 l0_0.length c0_0, .slice A0_1 l0_1.length c0_1], .int .i64 a1] w fun e w' => e = .returned (.tuple #[.int .i64 r1, .int .i64 r2]) ∧ Below w.heap.size w w' := by
 have hu25 := Try.underlying25
 have hu44 := Try.underlying44
 have HR0_0 := Aside0.mk hr0_0
 have HC0_0 := Aside0.mk hc0_0
 clear hr0_0 hc0_0
 have HR0_1 := Aside0.mk hr0_1
 have HC0_1 := Aside0.mk hc0_1
 clear hr0_1 hc0_1
 have HB := Aside0.mk (Below.refl w.heap.size w)
 have H : (if 0 ≤ (l0_1.length : Int) then (if ((l0_1.length : Int) : Int).toNat ≤ 35184372088832 then (erratalaw20_path.l0 k a1 (List.replicate ((l0_1.length : Int) : Int).toNat 0) (List.replicate ((l0_1.length : Int) : Int).toNat 0) 0 l0_0 l0_1) else (none)) else (none)) = some (r1, r2) := h
 clear h
 by_cases c3 : 0 ≤ (l0_1.length : Int)
 ·
  rw [if_pos c3] at H
  have c3b0 := eq_true c3
  have c3b1 : decide (0 ≤ (l0_1.length : Int)) = true := decide_eq_true c3
  clear c3
  by_cases c4 : ((l0_1.length : Int) : Int).toNat ≤ 35184372088832
  ·
   rw [if_pos c4] at H
   have c4b0 := eq_true c4
   have c4b1 : decide (((l0_1.length : Int) : Int).toNat ≤ 35184372088832) = true := decide_eq_true c4
   clear c4
   obtain ⟨y220, hy220⟩ : ∃ y_ : List Int, y_ = (List.replicate ((l0_1.length : Int) : Int).toNat 0) := ⟨_, rfl⟩
   replace H : (erratalaw20_path.l0 k a1 y220 (List.replicate ((l0_1.length : Int) : Int).toNat 0) 0 l0_0 l0_1) = some (r1, r2) := by first | (rw [hy220]; with_reducible exact H) | (have H2_ := (Option.bind_some _ _).symm.trans H; rw [hy220]; with_reducible exact H2_) | (have H2_ := (Option.bind_some _ _).symm.trans H; with_reducible exact H2_) | with_reducible exact H | (rw [hy220]; exact H) | exact H
   have Ny220 := Aside0.mk hy220
   clear hy220
   obtain ⟨y223, hy223⟩ : ∃ y_ : List Int, y_ = (List.replicate ((l0_1.length : Int) : Int).toNat 0) := ⟨_, rfl⟩
   replace H : (erratalaw20_path.l0 k a1 y220 y223 0 l0_0 l0_1) = some (r1, r2) := by first | (rw [hy223]; with_reducible exact H) | (have H2_ := (Option.bind_some _ _).symm.trans H; rw [hy223]; with_reducible exact H2_) | (have H2_ := (Option.bind_some _ _).symm.trans H; with_reducible exact H2_) | with_reducible exact H | (rw [hy223]; exact H) | exact H
   have Ny223 := Aside0.mk hy223
   clear hy223
   have H' := Aside0.mk H
   clear H
   go_enter Try.func10, Try.ntmps10
   go_wp2_with (first | ((with_reducible refine gate_dst (N := 2) rfl ?_); refine box_event ?hg (N := 2) ?hd (cs := #[.slice A0_0 l0_0.length c0_0, .slice A0_1 l0_1.length c0_1]) (t := 25) ?hr ?_; (case hd => rfl); (case hg => rfl); (case hr => first | (go_simp; done) | (go_simp; rfl)); intro gb219 hg w5 hbox hb; have n0_ := Aside0.mk (below_stepA hb); have n1_ := Aside0.mk (hbox); have n2_ := Aside0.mk ((by rw [hg]; exact below_sizeA : w.heap.size ≤ gb219)); have n3_ := Aside0.mk ((by rw [hg]; exact below_sizeA : w.heap.size ≤ gb219)); clear HB; have HB := n0_; have BK219 := n1_; have GW219 := n2_; have GE219 := n3_; clear n0_ n1_ n2_ n3_; clear hb hbox hg; obtain ⟨hcz6_0, hcz6_1, hfz6_0, hfz6_1⟩ := blk2 BK219.out) | ((with_reducible refine gate_dst (N := 16) rfl ?_); refine Kd.R_make (Kd.int .i64) _ 3 rfl (N := 16) rfl 38 _ _ rfl (l0_1.length : Int) rfl rfl Try.underlying38 (.int .i64 0) 8 info3 rfl (by decide) (by omega) 0 (ok := fun _ => True) (okp := fun _ => True) rfl (fun _ hk => hk) trivial (of_decide_eq_true (by first | (with_reducible assumption) | assumption)) (Nat.le_trans (Nat.mul_le_mul_right _ (of_decide_eq_true (by first | (with_reducible assumption) | assumption) : (l0_1.length : Int).toNat ≤ 35184372088832)) (by omega)) (Below.refl _ _) (Nat.le_refl _) ?_; intro v221 w7 ho8 hb hg_ hnew_; clear hg_ hnew_; (first | rw [← Ny220.out] at ho8 | (simp only [Int.reduceToNat] at ho8; rw [← Ny220.out] at ho8)); have n0_ := Aside0.mk (Kd.R_lower ho8 below_sizeA); have n1_ := Aside0.mk (blk_keepA BK219.out hb); have n2_ := Aside0.mk (below_stepA hb); clear BK219; clear HB; have HO222 := n0_; have BK219 := n1_; have HB := n2_; clear n0_ n1_ n2_; clear hb ho8; obtain ⟨hcz9_0, hcz9_1, hfz9_0, hfz9_1⟩ := blk2 BK219.out) | ((with_reducible refine gate_dst (N := 20) rfl ?_); refine Kd.R_make (Kd.int .i64) _ 3 rfl (N := 20) rfl 38 _ _ rfl (l0_1.length : Int) rfl rfl Try.underlying38 (.int .i64 0) 8 info3 rfl (by decide) (by omega) 0 (ok := fun _ => True) (okp := fun _ => True) rfl (fun _ hk => hk) trivial (of_decide_eq_true (by first | (with_reducible assumption) | assumption)) (Nat.le_trans (Nat.mul_le_mul_right _ (of_decide_eq_true (by first | (with_reducible assumption) | assumption) : (l0_1.length : Int).toNat ≤ 35184372088832)) (by omega)) (Below.refl _ _) (Nat.le_refl _) ?_; intro v224 w10 ho11 hb hg_ hnew_; clear hg_ hnew_; (first | rw [← Ny223.out] at ho11 | (simp only [Int.reduceToNat] at ho11; rw [← Ny223.out] at ho11)); have n0_ := Aside0.mk (Kd.R_elder' (by (with_reducible repeat (first | apply Kd.R_alloc | apply Kd.R_drewN | apply Kd.R_drew)); exact HO222.out) (Kd.R_base ho11) hb); have n1_ := Aside0.mk (Kd.R_lower (Kd.R_new' ho11 (Kd.R_lt (by (with_reducible repeat (first | apply Kd.R_alloc | apply Kd.R_drewN | apply Kd.R_drew)); exact HO222.out))) below_sizeA); have n2_ := Aside0.mk (blk_keepA BK219.out hb); have n3_ := Aside0.mk (below_stepA hb); clear HO222; clear BK219; clear HB; have HO222 := n0_; have HO225 := n1_; have BK219 := n2_; have HB := n3_; clear n0_ n1_ n2_ n3_; clear hb ho11))
   go_loopg [8] k (fun kq v8 w' => ∃ (x6_1 : List Int) (x7_1 : List Int) (x8_1 : Int), v8 = .int .i64 x8_1 ∧ Aside0 (erratalaw20_path.l0 kq a1 x6_1 x7_1 x8_1 l0_0 l0_1 = some (r1, r2)) ∧ Aside0 (kq ≤ k) ∧ Aside0 (Kd.R (Kd.int .i64) 3 w' w.heap.size (fun k_ => some k_ ≠ (v224 : Value).ownBlock) v221 x6_1) ∧ Aside0 (Kd.R (Kd.int .i64) 3 w' w.heap.size (fun k_ => some k_ ≠ (v221 : Value).ownBlock) v224 x7_1) ∧ Aside0 (w'.heap[gb219]? = some (.cells #[(.slice A0_0 l0_0.length c0_0), (.slice A0_1 l0_1.length c0_1)] 25 (0, 0))) ∧ Aside0 (Below w.heap.size w w'))
   case atStart => exact ⟨(y220), (y223), (0), (by first | rfl | (simp; done) | (simp [*]; done)), H', ⟨Nat.le_refl _⟩, ⟨by (with_reducible repeat (first | apply Kd.R_alloc | apply Kd.R_drewN | apply Kd.R_drew)); exact Kd.R_mono HO222.out (fun _ hk => hk.2)⟩, ⟨by (with_reducible repeat (first | apply Kd.R_alloc | apply Kd.R_drewN | apply Kd.R_drew)); exact Kd.R_mono HO225.out (fun _ hk => hk.2)⟩, ⟨by (with_reducible repeat (first | refine blk_drewN ?_ _ | refine blk_drew ?_ | refine blk_alloc ?_ _)); exact BK219.out⟩, ⟨by repeat (first | (with_reducible first | exact HB.out | apply below_alloc | apply pw_below_drewN | apply below_drew1 | refine below_set ?_ GE219.out) | exact HB.out)⟩⟩
   case round =>
    clear H'
    try clear c1
    try clear p2
    try clear c3
    try clear c3b0
    try clear c3b1
    try clear c4
    try clear c4b0
    try clear c4b1
    try clear c10
    try clear hcz6_0
    try clear hcz6_1
    try clear hcz9_0
    try clear hcz9_1
    try clear hfz6_0
    try clear hfz6_1
    try clear hfz9_0
    try clear hfz9_1
    obtain ⟨x6_1, x7_1, x8_1, rfl, HA, HK1, HO_6, HO_7, BK219, HB⟩ := hrel
    cases gk with
    | zero => exact absurd HA.out (by simp [erratalaw20_path.l0])
    | succ k1 =>
     have H := HA.out
     clear HA
     simp only [erratalaw20_path.l0] at H
     by_cases c12 : x8_1 < (l0_1.length : Int)
     ·
      rw [if_pos c12] at H
      have c12b0 : decide (x8_1 < (l0_1.length : Int)) = true := decide_eq_true c12
      clear c12
      by_cases c13 : 0 ≤ x8_1
      ·
       rw [if_pos c13] at H
       have c13b0 : decide (0 ≤ x8_1) = true := decide_eq_true c13
       clear c13
       replace H := Option.bind_eq_some_iff.mp H
       obtain ⟨⟨t229, t230⟩, A140, H⟩ := H
       replace H : (erratalaw20_path.l1 k1 a1 x6_1 x7_1 x8_1 t229 t230 ((rd_T44 l0_1 x8_1).f1) 0 l0_0 l0_1) = some (r1, r2) := H
       have A14 := Aside0.mk A140
       clear A140
       have H' := Aside0.mk H
       clear H
       obtain ⟨hcz15_0, hcz15_1, hfz15_0, hfz15_1⟩ := blk2 BK219.out
       have p228 : 0 ≤ (x8_1 : Int) := of_decide_eq_true (by first | (with_reducible assumption) | assumption)
       have q228 : x8_1 < (l0_1.length : Int) := of_decide_eq_true (by first | (with_reducible assumption) | assumption)
       obtain ⟨ad228, A228_1, c228_1, A228_4, c228_4, A228_8, c228_8, A228_9, c228_9, A228_13, c228_13, A228_14, c228_14, A228_15, c228_15, e228, hx228_0, hx228_1, hx228_2, hx228_3, hx228_4, hx228_5, hx228_6, hx228_7, hx228_8, hx228_9, hx228_10, hx228_11, hx228_12, hx228_13, hx228_14, hx228_15, hl228_1, hi228_1, hl228_4, hi228_4, hl228_8, hi228_8, hl228_9, hi228_9, hl228_13, hi228_13, hl228_14, hi228_14, hl228_15, hi228_15⟩ := at_T44 HR0_1.out x8_1 p228 q228
       cases e228
       replace hx228_0 := (HB.out.cell (World.block_lt_of_cell? w _ hx228_0)).trans hx228_0
       replace hx228_1 := (HB.out.cell (World.block_lt_of_cell? w _ hx228_1)).trans hx228_1
       replace hx228_2 := (HB.out.cell (World.block_lt_of_cell? w _ hx228_2)).trans hx228_2
       replace hx228_3 := (HB.out.cell (World.block_lt_of_cell? w _ hx228_3)).trans hx228_3
       replace hx228_4 := (HB.out.cell (World.block_lt_of_cell? w _ hx228_4)).trans hx228_4
       replace hx228_5 := (HB.out.cell (World.block_lt_of_cell? w _ hx228_5)).trans hx228_5
       replace hx228_6 := (HB.out.cell (World.block_lt_of_cell? w _ hx228_6)).trans hx228_6
       replace hx228_7 := (HB.out.cell (World.block_lt_of_cell? w _ hx228_7)).trans hx228_7
       replace hx228_8 := (HB.out.cell (World.block_lt_of_cell? w _ hx228_8)).trans hx228_8
       replace hx228_9 := (HB.out.cell (World.block_lt_of_cell? w _ hx228_9)).trans hx228_9
       replace hx228_10 := (HB.out.cell (World.block_lt_of_cell? w _ hx228_10)).trans hx228_10
       replace hx228_11 := (HB.out.cell (World.block_lt_of_cell? w _ hx228_11)).trans hx228_11
       replace hx228_12 := (HB.out.cell (World.block_lt_of_cell? w _ hx228_12)).trans hx228_12
       replace hx228_13 := (HB.out.cell (World.block_lt_of_cell? w _ hx228_13)).trans hx228_13
       replace hx228_14 := (HB.out.cell (World.block_lt_of_cell? w _ hx228_14)).trans hx228_14
       replace hx228_15 := (HB.out.cell (World.block_lt_of_cell? w _ hx228_15)).trans hx228_15
       have HR228_1 := Aside0.mk hi228_1
       have HC228_1 := Aside0.mk hl228_1
       clear hi228_1 hl228_1
       have HR228_4 := Aside0.mk hi228_4
       have HC228_4 := Aside0.mk hl228_4
       clear hi228_4 hl228_4
       have HR228_8 := Aside0.mk hi228_8
       have HC228_8 := Aside0.mk hl228_8
       clear hi228_8 hl228_8
       have HR228_9 := Aside0.mk hi228_9
       have HC228_9 := Aside0.mk hl228_9
       clear hi228_9 hl228_9
       have HR228_13 := Aside0.mk hi228_13
       have HC228_13 := Aside0.mk hl228_13
       clear hi228_13 hl228_13
       have HR228_14 := Aside0.mk hi228_14
       have HC228_14 := Aside0.mk hl228_14
       clear hi228_14 hl228_14
       have HR228_15 := Aside0.mk hi228_15
       have HC228_15 := Aside0.mk hl228_15
       clear hi228_15 hl228_15
       replace p228 := eq_true p228
       replace q228 := eq_true q228
       go_wp2_with (first | ((with_reducible refine gate_callee (f := 17) rfl ?_); refine goesL_ (some 34) rfl rfl Try.func17 (by kernel_rfl) rfl #[.agg #[.int .i64 ((rd_T44 l0_1 x8_1).f0), .slice A228_1 ((rd_T44 l0_1 x8_1).f1).length c228_1, .string ((rd_T44 l0_1 x8_1).f2), .int .i64 ((rd_T44 l0_1 x8_1).f3), .slice A228_4 ((rd_T44 l0_1 x8_1).f4).length c228_4, .int .i64 ((rd_T44 l0_1 x8_1).f5), .int .i64 ((rd_T44 l0_1 x8_1).f6), .int .i64 ((rd_T44 l0_1 x8_1).f7), .slice A228_8 ((rd_T44 l0_1 x8_1).f8).length c228_8, .slice A228_9 ((rd_T44 l0_1 x8_1).f9).length c228_9, .int .i64 ((rd_T44 l0_1 x8_1).f10), .int .i64 ((rd_T44 l0_1 x8_1).f11), .int .i64 ((rd_T44 l0_1 x8_1).f12), .slice A228_13 ((rd_T44 l0_1 x8_1).f13).length c228_13, .slice A228_14 ((rd_T44 l0_1 x8_1).f14).length c228_14, .slice A228_15 ((rd_T44 l0_1 x8_1).f15).length c228_15]] rfl (by (try simp only [List.map_toArray, List.map_cons, List.map_nil]); first | done | rfl | (simp only [List.length_drop, List.length_take]; rfl)) ?_; (with_reducible refine (bounds_Own.calls ((rd_T44 l0_1 x8_1).f0) _ _ ((rd_T44 l0_1 x8_1).f1) ((rd_T44 l0_1 x8_1).f2) ((rd_T44 l0_1 x8_1).f3) _ _ ((rd_T44 l0_1 x8_1).f4) ((rd_T44 l0_1 x8_1).f5) ((rd_T44 l0_1 x8_1).f6) ((rd_T44 l0_1 x8_1).f7) _ _ ((rd_T44 l0_1 x8_1).f8) _ _ ((rd_T44 l0_1 x8_1).f9) ((rd_T44 l0_1 x8_1).f10) ((rd_T44 l0_1 x8_1).f11) ((rd_T44 l0_1 x8_1).f12) _ _ ((rd_T44 l0_1 x8_1).f13) _ _ ((rd_T44 l0_1 x8_1).f14) _ _ ((rd_T44 l0_1 x8_1).f15) t229 t230 _ ?side1 ?side2 ?side3 ?side4 ?side5 ?side6 ?side7 ?side8 ?side9 ?side10 ?side11 ?side12 ?side13 ?side14 A14.out).mono ?_); (case side1 => exact c_belowA HR228_1.out); (case side2 => exact HC228_1.out); (case side3 => exact c_belowA HR228_4.out); (case side4 => exact HC228_4.out); (case side5 => exact c_belowA HR228_8.out); (case side6 => exact HC228_8.out); (case side7 => exact c_belowA HR228_9.out); (case side8 => exact HC228_9.out); (case side9 => exact c_belowA HR228_13.out); (case side10 => exact HC228_13.out); (case side11 => exact c_belowA HR228_14.out); (case side12 => exact HC228_14.out); (case side13 => exact c_belowA HR228_15.out); (case side14 => exact HC228_15.out); rintro e w16 ⟨rfl, hb⟩; refine ⟨_, rfl, ?_⟩; have n0_ := Aside0.mk (Kd.R_below (by (with_reducible repeat (first | apply Kd.R_alloc | apply Kd.R_drewN | apply Kd.R_drew)); exact HO_6.out) hb); have n1_ := Aside0.mk (Kd.R_below (by (with_reducible repeat (first | apply Kd.R_alloc | apply Kd.R_drewN | apply Kd.R_drew)); exact HO_7.out) hb); have n2_ := Aside0.mk (blk_keepA BK219.out hb); have n3_ := Aside0.mk (below_stepA hb); clear HO_6; clear HO_7; clear BK219; clear HB; have HO_6 := n0_; have HO_7 := n1_; have BK219 := n2_; have HB := n3_; clear n0_ n1_ n2_ n3_; (try clear hb); (try clear hb2); (try clear hk); (try clear hi); obtain ⟨hcz17_0, hcz17_1, hfz17_0, hfz17_1⟩ := blk2 BK219.out; have p231 : 0 ≤ (x8_1 : Int) := of_decide_eq_true (by first | (with_reducible assumption) | assumption); have q231 : x8_1 < (l0_1.length : Int) := of_decide_eq_true (by first | (with_reducible assumption) | assumption); obtain ⟨ad231, A231_1, c231_1, A231_4, c231_4, A231_8, c231_8, A231_9, c231_9, A231_13, c231_13, A231_14, c231_14, A231_15, c231_15, e231, hx231_0, hx231_1, hx231_2, hx231_3, hx231_4, hx231_5, hx231_6, hx231_7, hx231_8, hx231_9, hx231_10, hx231_11, hx231_12, hx231_13, hx231_14, hx231_15, hl231_1, hi231_1, hl231_4, hi231_4, hl231_8, hi231_8, hl231_9, hi231_9, hl231_13, hi231_13, hl231_14, hi231_14, hl231_15, hi231_15⟩ := at_T44 HR0_1.out x8_1 p231 q231; obtain rfl : ad228 = ad231 := (by injection e231); replace hx231_0 := (HB.out.cell (World.block_lt_of_cell? w _ hx231_0)).trans hx231_0; replace hx231_1 := (HB.out.cell (World.block_lt_of_cell? w _ hx231_1)).trans hx231_1; replace hx231_2 := (HB.out.cell (World.block_lt_of_cell? w _ hx231_2)).trans hx231_2; replace hx231_3 := (HB.out.cell (World.block_lt_of_cell? w _ hx231_3)).trans hx231_3; replace hx231_4 := (HB.out.cell (World.block_lt_of_cell? w _ hx231_4)).trans hx231_4; replace hx231_5 := (HB.out.cell (World.block_lt_of_cell? w _ hx231_5)).trans hx231_5; replace hx231_6 := (HB.out.cell (World.block_lt_of_cell? w _ hx231_6)).trans hx231_6; replace hx231_7 := (HB.out.cell (World.block_lt_of_cell? w _ hx231_7)).trans hx231_7; replace hx231_8 := (HB.out.cell (World.block_lt_of_cell? w _ hx231_8)).trans hx231_8; replace hx231_9 := (HB.out.cell (World.block_lt_of_cell? w _ hx231_9)).trans hx231_9; replace hx231_10 := (HB.out.cell (World.block_lt_of_cell? w _ hx231_10)).trans hx231_10; replace hx231_11 := (HB.out.cell (World.block_lt_of_cell? w _ hx231_11)).trans hx231_11; replace hx231_12 := (HB.out.cell (World.block_lt_of_cell? w _ hx231_12)).trans hx231_12; replace hx231_13 := (HB.out.cell (World.block_lt_of_cell? w _ hx231_13)).trans hx231_13; replace hx231_14 := (HB.out.cell (World.block_lt_of_cell? w _ hx231_14)).trans hx231_14; replace hx231_15 := (HB.out.cell (World.block_lt_of_cell? w _ hx231_15)).trans hx231_15; have HR231_1 := Aside0.mk hi231_1; have HC231_1 := Aside0.mk hl231_1; clear hi231_1 hl231_1; have HR231_4 := Aside0.mk hi231_4; have HC231_4 := Aside0.mk hl231_4; clear hi231_4 hl231_4; have HR231_8 := Aside0.mk hi231_8; have HC231_8 := Aside0.mk hl231_8; clear hi231_8 hl231_8; have HR231_9 := Aside0.mk hi231_9; have HC231_9 := Aside0.mk hl231_9; clear hi231_9 hl231_9; have HR231_13 := Aside0.mk hi231_13; have HC231_13 := Aside0.mk hl231_13; clear hi231_13 hl231_13; have HR231_14 := Aside0.mk hi231_14; have HC231_14 := Aside0.mk hl231_14; clear hi231_14 hl231_14; have HR231_15 := Aside0.mk hi231_15; have HC231_15 := Aside0.mk hl231_15; clear hi231_15 hl231_15; replace p231 := eq_true p231; replace q231 := eq_true q231))
       go_loopg [12] k1 (fun kq v12 w' => ∃ (x6_2 : List Int) (x7_2 : List Int) (x12_2 : Int), v12 = .int .i64 x12_2 ∧ Aside0 (erratalaw20_path.l1 kq a1 x6_2 x7_2 x8_1 t229 t230 ((rd_T44 l0_1 x8_1).f1) x12_2 l0_0 l0_1 = some (r1, r2)) ∧ Aside0 (kq ≤ k1) ∧ Aside0 (Kd.R (Kd.int .i64) 3 w' w.heap.size (fun k_ => some k_ ≠ (v224 : Value).ownBlock) v221 x6_2) ∧ Aside0 (Kd.R (Kd.int .i64) 3 w' w.heap.size (fun k_ => some k_ ≠ (v221 : Value).ownBlock) v224 x7_2) ∧ Aside0 (w'.heap[gb219]? = some (.cells #[(.slice A0_0 l0_0.length c0_0), (.slice (some ad228) l0_1.length c0_1)] 25 (0, 0))) ∧ Aside0 (Below w.heap.size w w'))
       case atStart => exact ⟨(x6_1), (x7_1), (0), (by first | rfl | (simp; done) | (simp [*]; done)), H', ⟨Nat.le_refl _⟩, ⟨by (with_reducible repeat (first | apply Kd.R_alloc | apply Kd.R_drewN | apply Kd.R_drew)); exact HO_6.out⟩, ⟨by (with_reducible repeat (first | apply Kd.R_alloc | apply Kd.R_drewN | apply Kd.R_drew)); exact HO_7.out⟩, ⟨by (with_reducible repeat (first | refine blk_drewN ?_ _ | refine blk_drew ?_ | refine blk_alloc ?_ _)); exact BK219.out⟩, ⟨by repeat (first | (with_reducible first | exact HB.out | apply below_alloc | apply pw_below_drewN | apply below_drew1 | refine below_set ?_ GE219.out) | exact HB.out)⟩⟩
       case round =>
        clear H'
        try clear c1
        try clear c2
        try clear p2
        try clear q2
        try clear hx2
        try clear c3
        try clear c3b0
        try clear c3b1
        try clear c4
        try clear c4b0
        try clear c4b1
        try clear c10
        try clear c12
        try clear c12b0
        try clear c13
        try clear c13b0
        try clear c17
        try clear hcz15_0
        try clear hcz15_1
        try clear hcz17_0
        try clear hcz17_1
        try clear hcz6_0
        try clear hcz6_1
        try clear hcz9_0
        try clear hcz9_1
        try clear hfz15_0
        try clear hfz15_1
        try clear hfz17_0
        try clear hfz17_1
        try clear hfz6_0
        try clear hfz6_1
        try clear hfz9_0
        try clear hfz9_1
        try clear hx228_0
        try clear hx228_1
        try clear hx228_10
        try clear hx228_11
        try clear hx228_12
        try clear hx228_13
        try clear hx228_14
        try clear hx228_15
        try clear hx228_2
        try clear hx228_3
        try clear hx228_4
        try clear hx228_5
        try clear hx228_6
        try clear hx228_7
        try clear hx228_8
        try clear hx228_9
        try clear hx231_0
        try clear hx231_1
        try clear hx231_10
        try clear hx231_11
        try clear hx231_12
        try clear hx231_13
        try clear hx231_14
        try clear hx231_15
        try clear hx231_2
        try clear hx231_3
        try clear hx231_4
        try clear hx231_5
        try clear hx231_6
        try clear hx231_7
        try clear hx231_8
        try clear hx231_9
        try clear p2
        try clear p228
        try clear p231
        try clear q228
        try clear q231
        obtain ⟨x6_2, x7_2, x12_2, rfl, HA, HK2, HO_6, HO_7, BK219, HB⟩ := hrel
        cases gk with
        | zero => exact absurd HA.out (by simp [erratalaw20_path.l1])
        | succ k2 =>
         have H := HA.out
         clear HA
         simp only [erratalaw20_path.l1] at H
         by_cases c18 : x12_2 < (((rd_T44 l0_1 x8_1).f1).length : Int)
         ·
          rw [if_pos c18] at H
          have c18b0 : decide (x12_2 < (((rd_T44 l0_1 x8_1).f1).length : Int)) = true := decide_eq_true c18
          clear c18
          by_cases c19 : 0 ≤ x8_1
          ·
           rw [if_pos c19] at H
           have c19b0 : decide (0 ≤ x8_1) = true := decide_eq_true c19
           clear c19
           by_cases c20 : x8_1 < (x6_2.length : Int)
           ·
            rw [if_pos c20] at H
            have c20b0 : decide (x8_1 < (x6_2.length : Int)) = true := decide_eq_true c20
            clear c20
            by_cases c21 : 0 ≤ x12_2
            ·
             rw [if_pos c21] at H
             have c21b0 : decide (0 ≤ x12_2) = true := decide_eq_true c21
             clear c21
             by_cases c22 : 0 ≤ (rd ((rd_T44 l0_1 x8_1).f1) x12_2)
             ·
              rw [if_pos c22] at H
              have c22b0 : decide (0 ≤ (rd ((rd_T44 l0_1 x8_1).f1) x12_2)) = true := decide_eq_true c22
              clear c22
              by_cases c23 : (rd ((rd_T44 l0_1 x8_1).f1) x12_2) < (x6_2.length : Int)
              ·
               rw [if_pos c23] at H
               have c23b0 : decide ((rd ((rd_T44 l0_1 x8_1).f1) x12_2) < (x6_2.length : Int)) = true := decide_eq_true c23
               clear c23
               obtain ⟨ji24, hji24⟩ : ∃ j_ : Int, (mx (rd x6_2 x8_1) (wrap64 ((rd x6_2 (rd ((rd_T44 l0_1 x8_1).f1) x12_2)) + t229))) = j_ := ⟨_, rfl⟩
               replace H : (if x8_1 < (x7_2.length : Int) then (if (rd ((rd_T44 l0_1 x8_1).f1) x12_2) < (x7_2.length : Int) then (erratalaw20_path.l1 k2 a1 (x6_2.set (x8_1 : Int).toNat (ji24)) (x7_2.set (x8_1 : Int).toNat (mx (rd x7_2 x8_1) (wrap64 ((rd x7_2 (rd ((rd_T44 l0_1 x8_1).f1) x12_2)) + t230)))) x8_1 t229 t230 ((rd_T44 l0_1 x8_1).f1) (wrap64 (x12_2 + 1)) l0_0 l0_1) else (none)) else (none)) = some (r1, r2) := by first | (rw [hji24] at H; exact H) | (simp only [hji24] at H ⊢; exact H)
               have hji24_ : (if (rd x6_2 x8_1) < (wrap64 ((rd x6_2 (rd ((rd_T44 l0_1 x8_1).f1) x12_2)) + t229)) then (wrap64 ((rd x6_2 (rd ((rd_T44 l0_1 x8_1).f1) x12_2)) + t229)) else (rd x6_2 x8_1)) = ji24 := hji24
               obtain ⟨y235, hy235⟩ : ∃ y_ : List Int, y_ = (x6_2.set (x8_1 : Int).toNat (ji24)) := ⟨_, rfl⟩
               replace H : (if x8_1 < (x7_2.length : Int) then (if (rd ((rd_T44 l0_1 x8_1).f1) x12_2) < (x7_2.length : Int) then (erratalaw20_path.l1 k2 a1 y235 (x7_2.set (x8_1 : Int).toNat (mx (rd x7_2 x8_1) (wrap64 ((rd x7_2 (rd ((rd_T44 l0_1 x8_1).f1) x12_2)) + t230)))) x8_1 t229 t230 ((rd_T44 l0_1 x8_1).f1) (wrap64 (x12_2 + 1)) l0_0 l0_1) else (none)) else (none)) = some (r1, r2) := by first | (rw [hy235]; with_reducible exact H) | (have H2_ := (Option.bind_some _ _).symm.trans H; rw [hy235]; with_reducible exact H2_) | (have H2_ := (Option.bind_some _ _).symm.trans H; with_reducible exact H2_) | with_reducible exact H | (rw [hy235]; exact H) | exact H
               have Ny235 := Aside0.mk hy235
               clear hy235
               by_cases c26 : x8_1 < (x7_2.length : Int)
               ·
                rw [if_pos c26] at H
                have c26b0 : decide (x8_1 < (x7_2.length : Int)) = true := decide_eq_true c26
                clear c26
                by_cases c27 : (rd ((rd_T44 l0_1 x8_1).f1) x12_2) < (x7_2.length : Int)
                ·
                 rw [if_pos c27] at H
                 have c27b0 : decide ((rd ((rd_T44 l0_1 x8_1).f1) x12_2) < (x7_2.length : Int)) = true := decide_eq_true c27
                 clear c27
                 obtain ⟨ji28, hji28⟩ : ∃ j_ : Int, (mx (rd x7_2 x8_1) (wrap64 ((rd x7_2 (rd ((rd_T44 l0_1 x8_1).f1) x12_2)) + t230))) = j_ := ⟨_, rfl⟩
                 replace H : (erratalaw20_path.l1 k2 a1 y235 (x7_2.set (x8_1 : Int).toNat (ji28)) x8_1 t229 t230 ((rd_T44 l0_1 x8_1).f1) (wrap64 (x12_2 + 1)) l0_0 l0_1) = some (r1, r2) := by first | (rw [hji28] at H; exact H) | (simp only [hji28] at H ⊢; exact H)
                 have hji28_ : (if (rd x7_2 x8_1) < (wrap64 ((rd x7_2 (rd ((rd_T44 l0_1 x8_1).f1) x12_2)) + t230)) then (wrap64 ((rd x7_2 (rd ((rd_T44 l0_1 x8_1).f1) x12_2)) + t230)) else (rd x7_2 x8_1)) = ji28 := hji28
                 obtain ⟨y239, hy239⟩ : ∃ y_ : List Int, y_ = (x7_2.set (x8_1 : Int).toNat (ji28)) := ⟨_, rfl⟩
                 replace H : (erratalaw20_path.l1 k2 a1 y235 y239 x8_1 t229 t230 ((rd_T44 l0_1 x8_1).f1) (wrap64 (x12_2 + 1)) l0_0 l0_1) = some (r1, r2) := by first | (rw [hy239]; with_reducible exact H) | (have H2_ := (Option.bind_some _ _).symm.trans H; rw [hy239]; with_reducible exact H2_) | (have H2_ := (Option.bind_some _ _).symm.trans H; with_reducible exact H2_) | with_reducible exact H | (rw [hy239]; exact H) | exact H
                 have Ny239 := Aside0.mk hy239
                 clear hy239
                 have H' := Aside0.mk H
                 clear H
                 try go_wp2
                 have n0_ := Aside0.mk (Kd.R_drew HO_6.out)
                 have n1_ := Aside0.mk (Kd.R_drew HO_7.out)
                 have n2_ := Aside0.mk (blk_drew BK219.out)
                 have n3_ := Aside0.mk (below_drew1 HB.out)
                 clear HO_6
                 clear HO_7
                 clear BK219
                 clear HB
                 have HO_6 := n0_
                 have HO_7 := n1_
                 have BK219 := n2_
                 have HB := n3_
                 clear n0_ n1_ n2_ n3_
                 obtain ⟨Ao31, co31, eo31⟩ := Kd.R_slice HO_6.out
                 (first | subst eo31 | (injection eo31 with f1_ f2_ f3_; have f4_ := f1_.symm; have f5_ := f3_.symm; clear f1_ f2_ f3_; subst f4_; subst f5_))
                 have p232 : 0 ≤ (x8_1 : Int) := of_decide_eq_true (by first | (with_reducible assumption) | assumption)
                 have q232 : x8_1 < (x6_2.length : Int) := of_decide_eq_true (by first | (with_reducible assumption) | assumption)
                 obtain ⟨ad232, e232, hx232_0⟩ := Kd.at_int (Kd.R_reads' HO_6.out).2.2 x8_1 p232 q232
                 cases e232
                 replace p232 := eq_true p232
                 replace q232 := eq_true q232
                 have p233 : 0 ≤ (x12_2 : Int) := of_decide_eq_true (by first | (with_reducible assumption) | assumption)
                 have q233 : x12_2 < (((rd_T44 l0_1 x8_1).f1).length : Int) := of_decide_eq_true (by first | (with_reducible assumption) | assumption)
                 obtain ⟨ad233, e233, hx233_0⟩ := Kd.at_int HR231_1.out x12_2 p233 q233
                 have hw233_0 := hx233_0
                 cases e233
                 replace hx233_0 := (HB.out.cell (World.block_lt_of_cell? w _ hx233_0)).trans hx233_0
                 replace p233 := eq_true p233
                 replace q233 := eq_true q233
                 have p234 : 0 ≤ ((rd ((rd_T44 l0_1 x8_1).f1) x12_2) : Int) := of_decide_eq_true (by first | (with_reducible assumption) | assumption)
                 have q234 : (rd ((rd_T44 l0_1 x8_1).f1) x12_2) < (x6_2.length : Int) := of_decide_eq_true (by first | (with_reducible assumption) | assumption)
                 obtain ⟨ad234, e234, hx234_0⟩ := Kd.at_int (Kd.R_reads' HO_6.out).2.2 (rd ((rd_T44 l0_1 x8_1).f1) x12_2) p234 q234
                 obtain rfl : ad232 = ad234 := (by injection e234)
                 replace p234 := eq_true p234
                 replace q234 := eq_true q234
                 have p25 : 0 ≤ (x8_1 : Int) := of_decide_eq_true (by first | (with_reducible assumption) | assumption)
                 have q25 : (x8_1 : Int) < ((x6_2.length : Int) : Int) := of_decide_eq_true (by first | (with_reducible assumption) | assumption)
                 obtain ⟨go25, co25, eo25, gb25, gl25, cl25, HG25⟩ := Kd.R_form HO_6.out (by omega)
                 (first | cases eo25 | (injection eo25 with ea_ en_ ec_; (first | subst ea_ | (injection ea_ with ea_; subst ea_)); subst ec_; clear en_))
                 have GB25 := Aside0.mk gb25
                 have GG25 := Aside0.mk HG25
                 clear gb25 gl25 HG25
                 (first | simp only [add_plain] at hx232_0 | skip)
                 (first | simp only [add_plain] at hx234_0 | skip)
                 obtain ⟨hx25_0, hf25_0⟩ := Kd.R_celln 0 HO_6.out (x8_1 : Int) p25 q25
                 replace p25 := eq_true p25
                 replace q25 := eq_true q25
                 have HP32 := Kd.R_putn HO_6.out (x8_1 : Int) ji24
                 rw [← Ny235.out] at HP32
                 have HQ32 := Aside0.mk HP32
                 clear HP32
                 refine start_ (n := 18) (S := fun w' => w'.cell? ⟨go25, (x8_1).toNat, none⟩ = some (.int .i64 (rd x6_2 x8_1)) ∧ w'.cell? (ad233.add (x12_2).toNat) = some (.int .i64 (rd ((rd_T44 l0_1 x8_1).f1) x12_2)) ∧ w'.cell? ⟨go25, ((rd ((rd_T44 l0_1 x8_1).f1) x12_2)).toNat, none⟩ = some (.int .i64 (rd x6_2 (rd ((rd_T44 l0_1 x8_1).f1) x12_2)))) (ds := [17]) #[O,O,O,O,O,O,O,O,O,O,O,O,O,O,O,O,O,O] (by kernel_rfl) rfl rfl ⟨hx232_0, ((HB.out.cell (World.block_lt_of_cell? w _ hw233_0)).trans hw233_0), hx234_0⟩ (fun hHeld => ?_); refine with_tabW erratalaw20_path.tab11 erratalaw20_path.bits11 (fun HT_ HW_ => ?_)
                 generalize wr.drew = w30 at HO_6 HO_7 BK219 HB GG25 HQ32 hf25_0 hx232_0 hx233_0 hx234_0 hx25_0 hHeld ⊢
                 refine pure_ (i := 0) (N := some 49) (v := ?_) (a' := ?_) #[J,O,O,O,O,O,O,O,O,O,O,O,O,O,O,O,O,O] rfl rfl (any_of HT_.out (by kernel_rfl)) (fun _ _ _ h => h) (Or.inl ⟨by rfl, ?_⟩) ?_ ?_
                 rotate_left
                 ·
                  intro w'
                  go_simp
                  with_reducible rfl
                 rotate_left
                 ·
                  simp only [Act.put, List.setIfInBounds_toArray, List.set_cons_zero, List.set_cons_succ, i64_w, i32_w]
                  rfl
                 refine pure_ (i := 1) (N := some 50) (v := ?_) (a' := ?_) #[J,J,O,O,O,O,O,O,O,O,O,O,O,O,O,O,O,O] rfl rfl (any_of HT_.out (by kernel_rfl)) (fun _ _ _ h => h) (Or.inl ⟨by rfl, ?_⟩) ?_ ?_
                 rotate_left
                 ·
                  intro w'
                  go_simp
                  with_reducible rfl
                 rotate_left
                 ·
                  simp only [Act.put, List.setIfInBounds_toArray, List.set_cons_zero, List.set_cons_succ, i64_w, i32_w]
                  rfl
                 refine pure_ (i := 2) (N := some 51) (v := ?_) (a' := ?_) #[J,J,J,O,O,O,O,O,O,O,O,O,O,O,O,O,O,O] rfl rfl (any_of HT_.out (by kernel_rfl)) (fun _ _ _ h => h) (Or.inl ⟨by rfl, ?_⟩) ?_ ?_
                 rotate_left
                 ·
                  intro w'
                  go_simp
                  with_reducible rfl
                 rotate_left
                 ·
                  simp only [Act.put, List.setIfInBounds_toArray, List.set_cons_zero, List.set_cons_succ, i64_w, i32_w]
                  rfl
                 refine pure_ (i := 3) (N := some 52) (v := ?_) (a' := ?_) #[J,J,J,J,O,O,O,O,O,O,O,O,O,O,O,O,O,O] rfl rfl (any_of HT_.out (by kernel_rfl)) (fun _ _ _ h => h) (Or.inl ⟨by rfl, ?_⟩) ?_ ?_
                 rotate_left
                 ·
                  intro w'
                  go_simp
                  with_reducible rfl
                 rotate_left
                 ·
                  simp only [Act.put, List.setIfInBounds_toArray, List.set_cons_zero, List.set_cons_succ, i64_w, i32_w]
                  rfl
                 refine pure_ (i := 4) (N := some 53) (v := ?_) (a' := ?_) #[J,J,J,J,J,O,O,O,O,O,O,O,O,O,O,O,O,O] rfl rfl (any_of HT_.out (by kernel_rfl)) (fun _ _ _ h => h) (Or.inl ⟨by rfl, ?_⟩) ?_ ?_
                 rotate_left
                 ·
                  intro w'
                  go_simp
                  with_reducible rfl
                 rotate_left
                 ·
                  simp only [Act.put, List.setIfInBounds_toArray, List.set_cons_zero, List.set_cons_succ, i64_w, i32_w]
                  rfl
                 refine pure_ (i := 6) (N := some 55) (v := ?_) (a' := ?_) #[J,J,J,J,J,O,J,O,O,O,O,O,O,O,O,O,O,O] rfl rfl (any_of HT_.out (by kernel_rfl)) (fun _ _ _ h => h) (Or.inl ⟨by rfl, ?_⟩) ?_ ?_
                 rotate_left
                 ·
                  intro w'
                  go_simp
                  with_reducible rfl
                 rotate_left
                 ·
                  simp only [Act.put, List.setIfInBounds_toArray, List.set_cons_zero, List.set_cons_succ, i64_w, i32_w]
                  rfl
                 refine pure_ (i := 7) (N := some 56) (v := ?_) (a' := ?_) #[J,J,J,J,J,O,J,J,O,O,O,O,O,O,O,O,O,O] rfl rfl (any_of HT_.out (by kernel_rfl)) (fun _ _ _ h => h) (Or.inl ⟨by rfl, ?_⟩) ?_ ?_
                 rotate_left
                 ·
                  intro w'
                  go_simp
                  with_reducible rfl
                 rotate_left
                 ·
                  simp only [Act.put, List.setIfInBounds_toArray, List.set_cons_zero, List.set_cons_succ, i64_w, i32_w]
                  rfl
                 refine pure_ (i := 8) (N := some 57) (v := ?_) (a' := ?_) #[J,J,J,J,J,O,J,J,J,O,O,O,O,O,O,O,O,O] rfl rfl (any_of HT_.out (by kernel_rfl)) (fun _ _ _ h => h) (Or.inl ⟨by rfl, ?_⟩) ?_ ?_
                 rotate_left
                 ·
                  intro w'
                  go_simp
                  with_reducible rfl
                 rotate_left
                 ·
                  simp only [Act.put, List.setIfInBounds_toArray, List.set_cons_zero, List.set_cons_succ, i64_w, i32_w]
                  rfl
                 refine pure_ (i := 9) (N := some 58) (v := ?_) (a' := ?_) #[J,J,J,J,J,O,J,J,J,J,O,O,O,O,O,O,O,O] rfl rfl (any_of HT_.out (by kernel_rfl)) (fun _ _ _ h => h) (Or.inl ⟨by rfl, ?_⟩) ?_ ?_
                 rotate_left
                 ·
                  intro w'
                  go_simp
                  with_reducible rfl
                 rotate_left
                 ·
                  simp only [Act.put, List.setIfInBounds_toArray, List.set_cons_zero, List.set_cons_succ, i64_w, i32_w]
                  rfl
                 refine pure_ (i := 13) (N := some 62) (v := ?_) (a' := ?_) #[J,J,J,J,J,O,J,J,J,J,O,O,O,J,O,O,O,O] rfl rfl (any_of HT_.out (by kernel_rfl)) (fun _ _ _ h => h) (Or.inl ⟨by rfl, ?_⟩) ?_ ?_
                 rotate_left
                 ·
                  intro w'
                  go_simp
                  with_reducible rfl
                 rotate_left
                 ·
                  simp only [Act.put, List.setIfInBounds_toArray, List.set_cons_zero, List.set_cons_succ, i64_w, i32_w]
                  rfl
                 refine take_ (i := 5) (N := some 54) (v := ?_) (a' := ?_) #[J,J,J,J,J,J,J,J,J,J,O,O,O,J,O,O,O,O] rfl rfl (take_ofW HT_.out HW_.out (by kernel_rfl)) (fun _ _ _ h => h) (Or.inl ⟨by rfl, ?_⟩) hHeld ?_ ?_
                 rotate_left
                 ·
                  rintro w' ⟨s0, s1, s2⟩
                  go_simp
                  with_reducible rfl
                 rotate_left
                 ·
                  simp only [Act.put, List.setIfInBounds_toArray, List.set_cons_zero, List.set_cons_succ, i64_w, i32_w]
                  rfl
                 refine take_ (i := 10) (N := some 59) (v := ?_) (a' := ?_) #[J,J,J,J,J,J,J,J,J,J,J,O,O,J,O,O,O,O] rfl rfl (take_ofW HT_.out HW_.out (by kernel_rfl)) (fun _ _ _ h => h) (Or.inl ⟨by rfl, ?_⟩) hHeld ?_ ?_
                 rotate_left
                 ·
                  rintro w' ⟨s0, s1, s2⟩
                  go_simp
                  with_reducible rfl
                 rotate_left
                 ·
                  simp only [Act.put, List.setIfInBounds_toArray, List.set_cons_zero, List.set_cons_succ, i64_w, i32_w]
                  rfl
                 refine pure_ (i := 11) (N := some 60) (v := ?_) (a' := ?_) #[J,J,J,J,J,J,J,J,J,J,J,J,O,J,O,O,O,O] rfl rfl (any_of HT_.out (by kernel_rfl)) (fun _ _ _ h => h) (Or.inl ⟨by rfl, ?_⟩) ?_ ?_
                 rotate_left
                 ·
                  intro w'
                  go_simp
                  with_reducible rfl
                 rotate_left
                 ·
                  simp only [Act.put, List.setIfInBounds_toArray, List.set_cons_zero, List.set_cons_succ, i64_w, i32_w]
                  rfl
                 refine take_ (i := 12) (N := some 61) (v := ?_) (a' := ?_) #[J,J,J,J,J,J,J,J,J,J,J,J,J,J,O,O,O,O] rfl rfl (take_ofW HT_.out HW_.out (by kernel_rfl)) (fun _ _ _ h => h) (Or.inl ⟨by rfl, ?_⟩) hHeld ?_ ?_
                 rotate_left
                 ·
                  rintro w' ⟨s0, s1, s2⟩
                  go_simp
                  with_reducible rfl
                 rotate_left
                 ·
                  simp only [Act.put, List.setIfInBounds_toArray, List.set_cons_zero, List.set_cons_succ, i64_w, i32_w]
                  rfl
                 refine pure_ (i := 14) (N := some 63) (v := ?_) (a' := ?_) #[J,J,J,J,J,J,J,J,J,J,J,J,J,J,J,O,O,O] rfl rfl (any_of HT_.out (by kernel_rfl)) (fun _ _ _ h => h) (Or.inl ⟨by rfl, ?_⟩) ?_ ?_
                 rotate_left
                 ·
                  intro w'
                  go_simp
                  with_reducible rfl
                 rotate_left
                 ·
                  simp only [Act.put, List.setIfInBounds_toArray, List.set_cons_zero, List.set_cons_succ, i64_w, i32_w]
                  rfl
                 refine pure_ (i := 15) (N := some 64) (v := ?_) (a' := ?_) #[J,J,J,J,J,J,J,J,J,J,J,J,J,J,J,J,O,O] rfl rfl (any_of HT_.out (by kernel_rfl)) (fun _ _ _ h => h) (Or.inl ⟨by rfl, ?_⟩) ?_ ?_
                 rotate_left
                 ·
                  intro w'
                  go_simp
                  with_reducible rfl
                 rotate_left
                 ·
                  simp only [Act.put, List.setIfInBounds_toArray, List.set_cons_zero, List.set_cons_succ, i64_w, i32_w]
                  rfl
                 refine pure_ (i := 16) (N := some 65) (v := ?_) (a' := ?_) #[J,J,J,J,J,J,J,J,J,J,J,J,J,J,J,J,J,O] rfl rfl (any_of HT_.out (by kernel_rfl)) (fun _ _ _ h => h) (Or.inl ⟨by rfl, ?_⟩) ?_ ?_
                 rotate_left
                 ·
                  intro w'
                  go_simp
                  with_reducible rfl
                 rotate_left
                 ·
                  simp only [Act.put, List.setIfInBounds_toArray, List.set_cons_zero, List.set_cons_succ, i64_w, i32_w]
                  rfl
                 refine last_ (i := 17) (N := none) #[J,J,J,J,J,J,J,J,J,J,J,J,J,J,J,J,J,J] rfl rfl (one_of HT_.out (by kernel_rfl)) (by decide) (fun K hK => ?_)
                 refine skip_ (w1 := ?_) (by rfl) rfl ?_ ?_
                 rotate_left
                 ·
                  go_simp
                  rfl
                 refine hK.out _ _ ?_
                 clear hK K
                 refine done_ (done_of HT_.out (by kernel_rfl)) ?_
                 try go_wp2
                 have n0_ : Aside0 (Kd.R (Kd.int .i64) 3 (w30.setCell ⟨go25, (x8_1 : Int).toNat, none⟩ (.int .i64 ji24)) w.heap.size (fun k_ => some k_ ≠ (v224 : Value).ownBlock) (.slice (some ⟨go25, 0, none⟩) x6_2.length co31) y235) := ⟨by (with_reducible repeat (first | apply Kd.R_alloc | apply Kd.R_drewN | apply Kd.R_drew)); exact HQ32.out⟩
                 have n1_ : Aside0 (Kd.R (Kd.int .i64) 3 (w30.setCell ⟨go25, (x8_1 : Int).toNat, none⟩ (.int .i64 ji24)) w.heap.size (fun k_ => some k_ ≠ (.slice (some ⟨go25, 0, none⟩) x6_2.length co31 : Value).ownBlock) v224 x7_2) := ⟨by (with_reducible repeat (first | apply Kd.R_alloc | apply Kd.R_drewN | apply Kd.R_drew)); exact Kd.R_mono (Kd.R_far (p := ⟨go25, (x8_1 : Int).toNat, none⟩) (Kd.R_mono HO_7.out (fun k_ hk => (⟨hk, fun e_ => hk (by rw [e_]; rfl)⟩ : _ ∧ k_ ≠ go25))) (fun _ hk => hk.2) (.int .i64 ji24)) (fun _ hk => hk.1)⟩
                 have n2_ : Aside0 ((w30.setCell ⟨go25, (x8_1 : Int).toNat, none⟩ (.int .i64 ji24)).heap[gb219]? = some (.cells #[.slice A0_0 l0_0.length c0_0, .slice (some ad228) l0_1.length c0_1] 25 (0, 0))) := ⟨by (with_reducible repeat (first | refine blk_drewN ?_ _ | refine blk_drew ?_ | refine blk_alloc ?_ _)); refine blk_far ?_ (by have h_ := Kd.R_ne HO_6.out BK219.out (by decide); intro e_; exact h_ (by rw [e_]; rfl)) _; (with_reducible repeat (first | refine blk_drewN ?_ _ | refine blk_drew ?_ | refine blk_alloc ?_ _)); exact BK219.out⟩
                 have n3_ : Aside0 (Below w.heap.size w (w30.setCell ⟨go25, (x8_1 : Int).toNat, none⟩ (.int .i64 ji24))) := ⟨by repeat (first | (with_reducible first | exact HB.out | apply below_alloc | apply pw_below_drewN | apply below_drew1 | refine below_set ?_ GB25.out | refine below_set ?_ GE219.out) | exact HB.out)⟩
                 (try clear HO_6)
                 (try clear HO_7)
                 (try clear BK219)
                 (try clear HB)
                 generalize (w30.setCell ⟨go25, (x8_1 : Int).toNat, none⟩ (.int .i64 ji24)) = w33 at n0_ n1_ n2_ n3_ ⊢
                 have HO_6 := n0_
                 have HO_7 := n1_
                 have BK219 := n2_
                 have HB := n3_
                 clear n0_ n1_ n2_ n3_
                 have n0_ := Aside0.mk (Kd.R_drew HO_6.out)
                 have n1_ := Aside0.mk (Kd.R_drew HO_7.out)
                 have n2_ := Aside0.mk (blk_drew BK219.out)
                 have n3_ := Aside0.mk (below_drew1 HB.out)
                 clear HO_6
                 clear HO_7
                 clear BK219
                 clear HB
                 have HO_6 := n0_
                 have HO_7 := n1_
                 have BK219 := n2_
                 have HB := n3_
                 clear n0_ n1_ n2_ n3_
                 obtain ⟨Ao35, co35, eo35⟩ := Kd.R_slice HO_7.out
                 (first | subst eo35 | (injection eo35 with f1_ f2_ f3_; have f4_ := f1_.symm; have f5_ := f3_.symm; clear f1_ f2_ f3_; subst f4_; subst f5_))
                 have p236 : 0 ≤ (x8_1 : Int) := of_decide_eq_true (by first | (with_reducible assumption) | assumption)
                 have q236 : x8_1 < (x7_2.length : Int) := of_decide_eq_true (by first | (with_reducible assumption) | assumption)
                 obtain ⟨ad236, e236, hx236_0⟩ := Kd.at_int (Kd.R_reads' HO_7.out).2.2 x8_1 p236 q236
                 cases e236
                 replace p236 := eq_true p236
                 replace q236 := eq_true q236
                 have p237 : 0 ≤ (x12_2 : Int) := of_decide_eq_true (by first | (with_reducible assumption) | assumption)
                 have q237 : x12_2 < (((rd_T44 l0_1 x8_1).f1).length : Int) := of_decide_eq_true (by first | (with_reducible assumption) | assumption)
                 obtain ⟨ad237, e237, hx237_0⟩ := Kd.at_int HR231_1.out x12_2 p237 q237
                 have hw237_0 := hx237_0
                 obtain rfl : ad233 = ad237 := (by injection e237)
                 replace hx237_0 := (HB.out.cell (World.block_lt_of_cell? w _ hx237_0)).trans hx237_0
                 replace p237 := eq_true p237
                 replace q237 := eq_true q237
                 have p238 : 0 ≤ ((rd ((rd_T44 l0_1 x8_1).f1) x12_2) : Int) := of_decide_eq_true (by first | (with_reducible assumption) | assumption)
                 have q238 : (rd ((rd_T44 l0_1 x8_1).f1) x12_2) < (x7_2.length : Int) := of_decide_eq_true (by first | (with_reducible assumption) | assumption)
                 obtain ⟨ad238, e238, hx238_0⟩ := Kd.at_int (Kd.R_reads' HO_7.out).2.2 (rd ((rd_T44 l0_1 x8_1).f1) x12_2) p238 q238
                 obtain rfl : ad236 = ad238 := (by injection e238)
                 replace p238 := eq_true p238
                 replace q238 := eq_true q238
                 have p29 : 0 ≤ (x8_1 : Int) := of_decide_eq_true (by first | (with_reducible assumption) | assumption)
                 have q29 : (x8_1 : Int) < ((x7_2.length : Int) : Int) := of_decide_eq_true (by first | (with_reducible assumption) | assumption)
                 obtain ⟨go29, co29, eo29, gb29, gl29, cl29, HG29⟩ := Kd.R_form HO_7.out (by omega)
                 (first | cases eo29 | (injection eo29 with ea_ en_ ec_; (first | subst ea_ | (injection ea_ with ea_; subst ea_)); subst ec_; clear en_))
                 have GB29 := Aside0.mk gb29
                 have GG29 := Aside0.mk HG29
                 clear gb29 gl29 HG29
                 (first | simp only [add_plain] at hx236_0 | skip)
                 (first | simp only [add_plain] at hx238_0 | skip)
                 obtain ⟨hx29_0, hf29_0⟩ := Kd.R_celln 0 HO_7.out (x8_1 : Int) p29 q29
                 replace p29 := eq_true p29
                 replace q29 := eq_true q29
                 have HP36 := Kd.R_putn HO_7.out (x8_1 : Int) ji28
                 rw [← Ny239.out] at HP36
                 have HQ36 := Aside0.mk HP36
                 clear HP36
                 refine start_ (n := 18) (S := fun w' => w'.cell? ⟨go29, (x8_1).toNat, none⟩ = some (.int .i64 (rd x7_2 x8_1)) ∧ w'.cell? (ad233.add (x12_2).toNat) = some (.int .i64 (rd ((rd_T44 l0_1 x8_1).f1) x12_2)) ∧ w'.cell? ⟨go29, ((rd ((rd_T44 l0_1 x8_1).f1) x12_2)).toNat, none⟩ = some (.int .i64 (rd x7_2 (rd ((rd_T44 l0_1 x8_1).f1) x12_2)))) (ds := [17]) #[O,O,O,O,O,O,O,O,O,O,O,O,O,O,O,O,O,O] (by kernel_rfl) rfl rfl ⟨hx236_0, ((HB.out.cell (World.block_lt_of_cell? w _ hw237_0)).trans hw237_0), hx238_0⟩ (fun hHeld => ?_); refine with_tabW erratalaw20_path.tab12 erratalaw20_path.bits12 (fun HT_ HW_ => ?_)
                 generalize w33.drew = w34 at HO_6 HO_7 BK219 HB GG29 HQ32 HQ36 hf29_0 hx236_0 hx237_0 hx238_0 hx29_0 hHeld ⊢
                 refine pure_ (i := 0) (N := some 66) (v := ?_) (a' := ?_) #[J,O,O,O,O,O,O,O,O,O,O,O,O,O,O,O,O,O] rfl rfl (any_of HT_.out (by kernel_rfl)) (fun _ _ _ h => h) (Or.inl ⟨by rfl, ?_⟩) ?_ ?_
                 rotate_left
                 ·
                  intro w'
                  go_simp
                  with_reducible rfl
                 rotate_left
                 ·
                  simp only [Act.put, List.setIfInBounds_toArray, List.set_cons_zero, List.set_cons_succ, i64_w, i32_w]
                  rfl
                 refine pure_ (i := 1) (N := some 67) (v := ?_) (a' := ?_) #[J,J,O,O,O,O,O,O,O,O,O,O,O,O,O,O,O,O] rfl rfl (any_of HT_.out (by kernel_rfl)) (fun _ _ _ h => h) (Or.inl ⟨by rfl, ?_⟩) ?_ ?_
                 rotate_left
                 ·
                  intro w'
                  go_simp
                  with_reducible rfl
                 rotate_left
                 ·
                  simp only [Act.put, List.setIfInBounds_toArray, List.set_cons_zero, List.set_cons_succ, i64_w, i32_w]
                  rfl
                 refine pure_ (i := 2) (N := some 68) (v := ?_) (a' := ?_) #[J,J,J,O,O,O,O,O,O,O,O,O,O,O,O,O,O,O] rfl rfl (any_of HT_.out (by kernel_rfl)) (fun _ _ _ h => h) (Or.inl ⟨by rfl, ?_⟩) ?_ ?_
                 rotate_left
                 ·
                  intro w'
                  go_simp
                  with_reducible rfl
                 rotate_left
                 ·
                  simp only [Act.put, List.setIfInBounds_toArray, List.set_cons_zero, List.set_cons_succ, i64_w, i32_w]
                  rfl
                 refine pure_ (i := 3) (N := some 69) (v := ?_) (a' := ?_) #[J,J,J,J,O,O,O,O,O,O,O,O,O,O,O,O,O,O] rfl rfl (any_of HT_.out (by kernel_rfl)) (fun _ _ _ h => h) (Or.inl ⟨by rfl, ?_⟩) ?_ ?_
                 rotate_left
                 ·
                  intro w'
                  go_simp
                  with_reducible rfl
                 rotate_left
                 ·
                  simp only [Act.put, List.setIfInBounds_toArray, List.set_cons_zero, List.set_cons_succ, i64_w, i32_w]
                  rfl
                 refine pure_ (i := 4) (N := some 70) (v := ?_) (a' := ?_) #[J,J,J,J,J,O,O,O,O,O,O,O,O,O,O,O,O,O] rfl rfl (any_of HT_.out (by kernel_rfl)) (fun _ _ _ h => h) (Or.inl ⟨by rfl, ?_⟩) ?_ ?_
                 rotate_left
                 ·
                  intro w'
                  go_simp
                  with_reducible rfl
                 rotate_left
                 ·
                  simp only [Act.put, List.setIfInBounds_toArray, List.set_cons_zero, List.set_cons_succ, i64_w, i32_w]
                  rfl
                 refine pure_ (i := 6) (N := some 72) (v := ?_) (a' := ?_) #[J,J,J,J,J,O,J,O,O,O,O,O,O,O,O,O,O,O] rfl rfl (any_of HT_.out (by kernel_rfl)) (fun _ _ _ h => h) (Or.inl ⟨by rfl, ?_⟩) ?_ ?_
                 rotate_left
                 ·
                  intro w'
                  go_simp
                  with_reducible rfl
                 rotate_left
                 ·
                  simp only [Act.put, List.setIfInBounds_toArray, List.set_cons_zero, List.set_cons_succ, i64_w, i32_w]
                  rfl
                 refine pure_ (i := 7) (N := some 73) (v := ?_) (a' := ?_) #[J,J,J,J,J,O,J,J,O,O,O,O,O,O,O,O,O,O] rfl rfl (any_of HT_.out (by kernel_rfl)) (fun _ _ _ h => h) (Or.inl ⟨by rfl, ?_⟩) ?_ ?_
                 rotate_left
                 ·
                  intro w'
                  go_simp
                  with_reducible rfl
                 rotate_left
                 ·
                  simp only [Act.put, List.setIfInBounds_toArray, List.set_cons_zero, List.set_cons_succ, i64_w, i32_w]
                  rfl
                 refine pure_ (i := 8) (N := some 74) (v := ?_) (a' := ?_) #[J,J,J,J,J,O,J,J,J,O,O,O,O,O,O,O,O,O] rfl rfl (any_of HT_.out (by kernel_rfl)) (fun _ _ _ h => h) (Or.inl ⟨by rfl, ?_⟩) ?_ ?_
                 rotate_left
                 ·
                  intro w'
                  go_simp
                  with_reducible rfl
                 rotate_left
                 ·
                  simp only [Act.put, List.setIfInBounds_toArray, List.set_cons_zero, List.set_cons_succ, i64_w, i32_w]
                  rfl
                 refine pure_ (i := 9) (N := some 75) (v := ?_) (a' := ?_) #[J,J,J,J,J,O,J,J,J,J,O,O,O,O,O,O,O,O] rfl rfl (any_of HT_.out (by kernel_rfl)) (fun _ _ _ h => h) (Or.inl ⟨by rfl, ?_⟩) ?_ ?_
                 rotate_left
                 ·
                  intro w'
                  go_simp
                  with_reducible rfl
                 rotate_left
                 ·
                  simp only [Act.put, List.setIfInBounds_toArray, List.set_cons_zero, List.set_cons_succ, i64_w, i32_w]
                  rfl
                 refine pure_ (i := 13) (N := some 79) (v := ?_) (a' := ?_) #[J,J,J,J,J,O,J,J,J,J,O,O,O,J,O,O,O,O] rfl rfl (any_of HT_.out (by kernel_rfl)) (fun _ _ _ h => h) (Or.inl ⟨by rfl, ?_⟩) ?_ ?_
                 rotate_left
                 ·
                  intro w'
                  go_simp
                  with_reducible rfl
                 rotate_left
                 ·
                  simp only [Act.put, List.setIfInBounds_toArray, List.set_cons_zero, List.set_cons_succ, i64_w, i32_w]
                  rfl
                 refine take_ (i := 5) (N := some 71) (v := ?_) (a' := ?_) #[J,J,J,J,J,J,J,J,J,J,O,O,O,J,O,O,O,O] rfl rfl (take_ofW HT_.out HW_.out (by kernel_rfl)) (fun _ _ _ h => h) (Or.inl ⟨by rfl, ?_⟩) hHeld ?_ ?_
                 rotate_left
                 ·
                  rintro w' ⟨s0, s1, s2⟩
                  go_simp
                  with_reducible rfl
                 rotate_left
                 ·
                  simp only [Act.put, List.setIfInBounds_toArray, List.set_cons_zero, List.set_cons_succ, i64_w, i32_w]
                  rfl
                 refine take_ (i := 10) (N := some 76) (v := ?_) (a' := ?_) #[J,J,J,J,J,J,J,J,J,J,J,O,O,J,O,O,O,O] rfl rfl (take_ofW HT_.out HW_.out (by kernel_rfl)) (fun _ _ _ h => h) (Or.inl ⟨by rfl, ?_⟩) hHeld ?_ ?_
                 rotate_left
                 ·
                  rintro w' ⟨s0, s1, s2⟩
                  go_simp
                  with_reducible rfl
                 rotate_left
                 ·
                  simp only [Act.put, List.setIfInBounds_toArray, List.set_cons_zero, List.set_cons_succ, i64_w, i32_w]
                  rfl
                 refine pure_ (i := 11) (N := some 77) (v := ?_) (a' := ?_) #[J,J,J,J,J,J,J,J,J,J,J,J,O,J,O,O,O,O] rfl rfl (any_of HT_.out (by kernel_rfl)) (fun _ _ _ h => h) (Or.inl ⟨by rfl, ?_⟩) ?_ ?_
                 rotate_left
                 ·
                  intro w'
                  go_simp
                  with_reducible rfl
                 rotate_left
                 ·
                  simp only [Act.put, List.setIfInBounds_toArray, List.set_cons_zero, List.set_cons_succ, i64_w, i32_w]
                  rfl
                 refine take_ (i := 12) (N := some 78) (v := ?_) (a' := ?_) #[J,J,J,J,J,J,J,J,J,J,J,J,J,J,O,O,O,O] rfl rfl (take_ofW HT_.out HW_.out (by kernel_rfl)) (fun _ _ _ h => h) (Or.inl ⟨by rfl, ?_⟩) hHeld ?_ ?_
                 rotate_left
                 ·
                  rintro w' ⟨s0, s1, s2⟩
                  go_simp
                  with_reducible rfl
                 rotate_left
                 ·
                  simp only [Act.put, List.setIfInBounds_toArray, List.set_cons_zero, List.set_cons_succ, i64_w, i32_w]
                  rfl
                 refine pure_ (i := 14) (N := some 80) (v := ?_) (a' := ?_) #[J,J,J,J,J,J,J,J,J,J,J,J,J,J,J,O,O,O] rfl rfl (any_of HT_.out (by kernel_rfl)) (fun _ _ _ h => h) (Or.inl ⟨by rfl, ?_⟩) ?_ ?_
                 rotate_left
                 ·
                  intro w'
                  go_simp
                  with_reducible rfl
                 rotate_left
                 ·
                  simp only [Act.put, List.setIfInBounds_toArray, List.set_cons_zero, List.set_cons_succ, i64_w, i32_w]
                  rfl
                 refine pure_ (i := 15) (N := some 81) (v := ?_) (a' := ?_) #[J,J,J,J,J,J,J,J,J,J,J,J,J,J,J,J,O,O] rfl rfl (any_of HT_.out (by kernel_rfl)) (fun _ _ _ h => h) (Or.inl ⟨by rfl, ?_⟩) ?_ ?_
                 rotate_left
                 ·
                  intro w'
                  go_simp
                  with_reducible rfl
                 rotate_left
                 ·
                  simp only [Act.put, List.setIfInBounds_toArray, List.set_cons_zero, List.set_cons_succ, i64_w, i32_w]
                  rfl
                 refine pure_ (i := 16) (N := some 82) (v := ?_) (a' := ?_) #[J,J,J,J,J,J,J,J,J,J,J,J,J,J,J,J,J,O] rfl rfl (any_of HT_.out (by kernel_rfl)) (fun _ _ _ h => h) (Or.inl ⟨by rfl, ?_⟩) ?_ ?_
                 rotate_left
                 ·
                  intro w'
                  go_simp
                  with_reducible rfl
                 rotate_left
                 ·
                  simp only [Act.put, List.setIfInBounds_toArray, List.set_cons_zero, List.set_cons_succ, i64_w, i32_w]
                  rfl
                 refine last_ (i := 17) (N := none) #[J,J,J,J,J,J,J,J,J,J,J,J,J,J,J,J,J,J] rfl rfl (one_of HT_.out (by kernel_rfl)) (by decide) (fun K hK => ?_)
                 refine skip_ (w1 := ?_) (by rfl) rfl ?_ ?_
                 rotate_left
                 ·
                  go_simp
                  rfl
                 refine hK.out _ _ ?_
                 clear hK K
                 refine done_ (done_of HT_.out (by kernel_rfl)) ?_
                 try go_wp2
                 go_roundg k2
                 case measure => have := HK1.out; have := HK2.out; omega
                 case rel => exact ⟨(y235), (y239), (wrap64 (x12_2 + 1)), (by first | rfl | (simp; done) | (simp [*]; done)), H', ⟨by have := HK1.out; have := HK2.out; omega⟩, ⟨by (with_reducible repeat (first | apply Kd.R_alloc | apply Kd.R_drewN | apply Kd.R_drew)); exact Kd.R_mono (Kd.R_far (p := ⟨go29, (x8_1 : Int).toNat, none⟩) (Kd.R_mono HO_6.out (fun k_ hk => (⟨hk, fun e_ => hk (by rw [e_]; rfl)⟩ : _ ∧ k_ ≠ go29))) (fun _ hk => hk.2) (.int .i64 ji28)) (fun _ hk => hk.1)⟩, ⟨by (with_reducible repeat (first | apply Kd.R_alloc | apply Kd.R_drewN | apply Kd.R_drew)); exact HQ36.out⟩, ⟨by (with_reducible repeat (first | refine blk_drewN ?_ _ | refine blk_drew ?_ | refine blk_alloc ?_ _)); refine blk_far ?_ (by have h_ := Kd.R_ne HO_7.out BK219.out (by decide); intro e_; exact h_ (by rw [e_]; rfl)) _; (with_reducible repeat (first | refine blk_drewN ?_ _ | refine blk_drew ?_ | refine blk_alloc ?_ _)); exact BK219.out⟩, ⟨by repeat (first | (with_reducible first | exact HB.out | apply below_alloc | apply pw_below_drewN | apply below_drew1 | refine below_set ?_ GB29.out | refine below_set ?_ GE219.out) | exact HB.out)⟩⟩
                ·
                 rw [if_neg c27] at H
                 exact absurd H (by simp)
               ·
                rw [if_neg c26] at H
                exact absurd H (by simp)
              ·
               rw [if_neg c23] at H
               exact absurd H (by simp)
             ·
              rw [if_neg c22] at H
              exact absurd H (by simp)
            ·
             rw [if_neg c21] at H
             exact absurd H (by simp)
           ·
            rw [if_neg c20] at H
            exact absurd H (by simp)
          ·
           rw [if_neg c19] at H
           exact absurd H (by simp)
         ·
          rw [if_neg c18] at H
          have c18b0 : decide (x12_2 < (((rd_T44 l0_1 x8_1).f1).length : Int)) = false := decide_eq_false c18
          clear c18
          by_cases c37 : (((rd_T44 l0_1 x8_1).f1).length : Int) = 0
          ·
           rw [if_pos c37] at H
           have c37b0 : ((((rd_T44 l0_1 x8_1).f1).length : Int) == 0) = true := beq_iff_eq.mpr c37
           have c37b1 : ((((rd_T44 l0_1 x8_1).f1).length : Int) != 0) = false := bne_eq_false_iff_eq.mpr c37
           clear c37
           by_cases c38 : 0 ≤ x8_1
           ·
            rw [if_pos c38] at H
            have c38b0 : decide (0 ≤ x8_1) = true := decide_eq_true c38
            clear c38
            by_cases c39 : x8_1 < (x6_2.length : Int)
            ·
             rw [if_pos c39] at H
             have c39b0 : decide (x8_1 < (x6_2.length : Int)) = true := decide_eq_true c39
             clear c39
             obtain ⟨y240, hy240⟩ : ∃ y_ : List Int, y_ = (x6_2.set (x8_1 : Int).toNat t229) := ⟨_, rfl⟩
             replace H : (if x8_1 < (x7_2.length : Int) then (erratalaw20_path.l0 k2 a1 y240 (x7_2.set (x8_1 : Int).toNat t230) (wrap64 (x8_1 + 1)) l0_0 l0_1) else (none)) = some (r1, r2) := by first | (rw [hy240]; with_reducible exact H) | (have H2_ := (Option.bind_some _ _).symm.trans H; rw [hy240]; with_reducible exact H2_) | (have H2_ := (Option.bind_some _ _).symm.trans H; with_reducible exact H2_) | with_reducible exact H | (rw [hy240]; exact H) | exact H
             have Ny240 := Aside0.mk hy240
             clear hy240
             by_cases c41 : x8_1 < (x7_2.length : Int)
             ·
              rw [if_pos c41] at H
              have c41b0 : decide (x8_1 < (x7_2.length : Int)) = true := decide_eq_true c41
              clear c41
              obtain ⟨y241, hy241⟩ : ∃ y_ : List Int, y_ = (x7_2.set (x8_1 : Int).toNat t230) := ⟨_, rfl⟩
              replace H : (erratalaw20_path.l0 k2 a1 y240 y241 (wrap64 (x8_1 + 1)) l0_0 l0_1) = some (r1, r2) := by first | (rw [hy241]; with_reducible exact H) | (have H2_ := (Option.bind_some _ _).symm.trans H; rw [hy241]; with_reducible exact H2_) | (have H2_ := (Option.bind_some _ _).symm.trans H; with_reducible exact H2_) | with_reducible exact H | (rw [hy241]; exact H) | exact H
              have Ny241 := Aside0.mk hy241
              clear hy241
              have H' := Aside0.mk H
              clear H
              have p40 : 0 ≤ (x8_1 : Int) := of_decide_eq_true (by first | (with_reducible assumption) | assumption)
              have q40 : (x8_1 : Int) < ((x6_2.length : Int) : Int) := of_decide_eq_true (by first | (with_reducible assumption) | assumption)
              obtain ⟨go40, co40, eo40, gb40, gl40, cl40, HG40⟩ := Kd.R_form HO_6.out (by omega)
              (first | cases eo40 | (injection eo40 with ea_ en_ ec_; (first | subst ea_ | (injection ea_ with ea_; subst ea_)); subst ec_; clear en_))
              have GB40 := Aside0.mk gb40
              have GG40 := Aside0.mk HG40
              clear gb40 gl40 HG40
              obtain ⟨hx40_0, hf40_0⟩ := Kd.R_celln 0 HO_6.out (x8_1 : Int) p40 q40
              replace p40 := eq_true p40
              replace q40 := eq_true q40
              have HP43 := Kd.R_putg HO_6.out (x8_1 : Int) t229
              go_wp2_with (first | ((with_reducible refine gate_store (t := 3) (p := 89) rfl ?_); refine store_event (t := 3) (p := 89) (v := ?vo_w44) (w1 := (wr.setCell ⟨go40, (x8_1 : Int).toNat, none⟩ (.int .i64 t229))) ?hg ?ho ?hn ?hr ?_; (case ho => rfl); (case hg => rfl); (case hn => rfl); (case hr => first | (go_simp; done) | (go_simp; rfl)); intro w44 hw; have hg : wr.grownBy w44 (some go40) := (by rw [hw]; exact HP43.2); have hp_ : Kd.R (Kd.int .i64) 3 w44 w.heap.size (fun k_ => some k_ ≠ (v224 : Value).ownBlock) (.slice (some ⟨go40, 0, none⟩) x6_2.length co40) y240 := (by rw [hw, Ny240.out]; exact HP43.1); clear HP43; have n0_ := Aside0.mk (hp_); have n1_ := Aside0.mk (Kd.R_after (v := (.slice (some ⟨go40, 0, none⟩) x6_2.length co40)) (v1 := (.slice (some ⟨go40, 0, none⟩) x6_2.length co40)) (ok := (fun _ => True)) (by (with_reducible repeat (first | apply Kd.R_alloc | apply Kd.R_drewN | apply Kd.R_drew)); exact Kd.R_mono HO_7.out (fun _ hk => ⟨trivial, hk⟩)) hg (.inl rfl)); have n2_ := Aside0.mk (blk_grown (g := gb219) (o := .cells #[.slice A0_0 l0_0.length c0_0, .slice (some ad228) l0_1.length c0_1] 25 (0, 0)) (by (with_reducible repeat (first | refine blk_drewN ?_ _ | refine blk_drew ?_ | refine blk_alloc ?_ _)); exact BK219.out) hg (Kd.R_ne HO_6.out BK219.out (by decide))); have n3_ := Aside0.mk ((by rw [hw]; exact below_set (HB.out) GB40.out : Below w.heap.size w w44)); clear HO_6; clear HO_7; clear BK219; clear HB; have HO_6 := n0_; have HO_7 := n1_; have BK219 := n2_; have HB := n3_; clear n0_ n1_ n2_ n3_; clear hg hw hp_; have p42 : 0 ≤ (x8_1 : Int) := of_decide_eq_true (by first | (with_reducible assumption) | assumption); have q42 : (x8_1 : Int) < ((x7_2.length : Int) : Int) := of_decide_eq_true (by first | (with_reducible assumption) | assumption); obtain ⟨go42, co42, eo42, gb42, gl42, cl42, HG42⟩ := Kd.R_form HO_7.out (by omega); (first | cases eo42 | (injection eo42 with ea_ en_ ec_; (first | subst ea_ | (injection ea_ with ea_; subst ea_)); subst ec_; clear en_)); have GB42 := Aside0.mk gb42; have GG42 := Aside0.mk HG42; clear gb42 gl42 HG42; obtain ⟨hx42_0, hf42_0⟩ := Kd.R_celln 0 HO_7.out (x8_1 : Int) p42 q42; replace p42 := eq_true p42; replace q42 := eq_true q42; have n_ := Aside0.mk (Kd.R_mono (ok' := (fun k_ => some k_ ≠ (.slice (some ⟨go40, 0, none⟩) x6_2.length co40 : Value).ownBlock)) HO_7.out (fun k_ hk => hk.2)); clear HO_7; have HO_7 := n_; clear n_; obtain ⟨hy45_, hz45_⟩ := Kd.R_celln 0 HO_7.out (x8_1 : Int) (of_decide_eq_true (by first | (with_reducible assumption) | assumption)) (of_decide_eq_true (by first | (with_reducible assumption) | assumption)); have HP45 := Kd.R_putg HO_7.out (x8_1 : Int) t230) | ((with_reducible refine gate_store (t := 3) (p := 93) rfl ?_); refine store_event (t := 3) (p := 93) (v := ?vo_w46) (w1 := (w44.setCell ⟨go42, (x8_1 : Int).toNat, none⟩ (.int .i64 t230))) ?hg ?ho ?hn ?hr ?_; (case ho => rfl); (case hg => rfl); (case hn => rfl); (case hr => first | (go_simp; done) | (go_simp; rfl)); intro w46 hw; have hg : w44.grownBy w46 (some go42) := (by rw [hw]; exact HP45.2); have hp_ : Kd.R (Kd.int .i64) 3 w46 w.heap.size (fun k_ => some k_ ≠ (.slice (some ⟨go40, 0, none⟩) x6_2.length co40 : Value).ownBlock) (.slice (some ⟨go42, 0, none⟩) x7_2.length co42) y241 := (by rw [hw, Ny241.out]; exact HP45.1); clear HP45; have n0_ := Aside0.mk (Kd.R_after (v := (.slice (some ⟨go42, 0, none⟩) x7_2.length co42)) (v1 := (.slice (some ⟨go42, 0, none⟩) x7_2.length co42)) (ok := (fun _ => True)) (by (with_reducible repeat (first | apply Kd.R_alloc | apply Kd.R_drewN | apply Kd.R_drew)); exact Kd.R_mono HO_6.out (fun _ hk => ⟨trivial, hk⟩)) hg (.inl rfl)); have n1_ := Aside0.mk (hp_); have n2_ := Aside0.mk (blk_grown (g := gb219) (o := .cells #[.slice A0_0 l0_0.length c0_0, .slice (some ad228) l0_1.length c0_1] 25 (0, 0)) (by (with_reducible repeat (first | refine blk_drewN ?_ _ | refine blk_drew ?_ | refine blk_alloc ?_ _)); exact BK219.out) hg (Kd.R_ne HO_7.out BK219.out (by decide))); have n3_ := Aside0.mk ((by rw [hw]; exact below_set (HB.out) GB42.out : Below w.heap.size w w46)); clear HO_6; clear HO_7; clear BK219; clear HB; have HO_6 := n0_; have HO_7 := n1_; have BK219 := n2_; have HB := n3_; clear n0_ n1_ n2_ n3_; clear hg hw hp_))
              go_roundg k2
              case measure => have := HK1.out; have := HK2.out; omega
              case rel => exact ⟨(y240), (y241), (wrap64 (x8_1 + 1)), (by first | rfl | (simp; done) | (simp [*]; done)), H', ⟨by have := HK1.out; have := HK2.out; omega⟩, ⟨by (with_reducible repeat (first | apply Kd.R_alloc | apply Kd.R_drewN | apply Kd.R_drew)); exact Kd.R_mono HO_6.out (fun _ hk => hk.2)⟩, ⟨by (with_reducible repeat (first | apply Kd.R_alloc | apply Kd.R_drewN | apply Kd.R_drew)); exact HO_7.out⟩, ⟨by (with_reducible repeat (first | refine blk_drewN ?_ _ | refine blk_drew ?_ | refine blk_alloc ?_ _)); exact BK219.out⟩, ⟨by repeat (first | (with_reducible first | exact HB.out | apply below_alloc | apply pw_below_drewN | apply below_drew1 | refine below_set ?_ GE219.out) | exact HB.out)⟩⟩
             ·
              rw [if_neg c41] at H
              exact absurd H (by simp)
            ·
             rw [if_neg c39] at H
             exact absurd H (by simp)
           ·
            rw [if_neg c38] at H
            exact absurd H (by simp)
          ·
           rw [if_neg c37] at H
           have c37b0 : ((((rd_T44 l0_1 x8_1).f1).length : Int) == 0) = false := beq_eq_false_iff_ne.mpr c37
           have c37b1 : ((((rd_T44 l0_1 x8_1).f1).length : Int) != 0) = true := bne_iff_ne.mpr c37
           have c37b2 : ¬ (((rd_T44 l0_1 x8_1).f1) = []) := fun h_ => c37 (by rw [h_]; rfl)
           have H' := Aside0.mk H
           clear H
           go_wp2
           go_roundg k2
           case measure => have := HK1.out; have := HK2.out; omega
           case rel => exact ⟨(x6_2), (x7_2), (wrap64 (x8_1 + 1)), (by first | rfl | (simp; done) | (simp [*]; done)), H', ⟨by have := HK1.out; have := HK2.out; omega⟩, ⟨by (with_reducible repeat (first | apply Kd.R_alloc | apply Kd.R_drewN | apply Kd.R_drew)); exact HO_6.out⟩, ⟨by (with_reducible repeat (first | apply Kd.R_alloc | apply Kd.R_drewN | apply Kd.R_drew)); exact HO_7.out⟩, ⟨by (with_reducible repeat (first | refine blk_drewN ?_ _ | refine blk_drew ?_ | refine blk_alloc ?_ _)); exact BK219.out⟩, ⟨by repeat (first | (with_reducible first | exact HB.out | apply below_alloc | apply pw_below_drewN | apply below_drew1 | refine below_set ?_ GE219.out) | exact HB.out)⟩⟩
      ·
       rw [if_neg c13] at H
       exact absurd H (by simp)
     ·
      rw [if_neg c12] at H
      have c12b0 : decide (x8_1 < (l0_1.length : Int)) = false := decide_eq_false c12
      clear c12
      by_cases c47 : 0 ≤ a1
      ·
       rw [if_pos c47] at H
       have c47b0 : decide (0 ≤ a1) = true := decide_eq_true c47
       clear c47
       by_cases c48 : a1 < (x6_1.length : Int)
       ·
        rw [if_pos c48] at H
        have c48b0 : decide (a1 < (x6_1.length : Int)) = true := decide_eq_true c48
        clear c48
        by_cases c49 : a1 < (x7_1.length : Int)
        ·
         rw [if_pos c49] at H
         have c49b0 : decide (a1 < (x7_1.length : Int)) = true := decide_eq_true c49
         clear c49
         simp only [Option.some.injEq, Prod.mk.injEq] at H
         obtain ⟨rfl, rfl⟩ := H
         obtain ⟨hcz50_0, hcz50_1, hfz50_0, hfz50_1⟩ := blk2 BK219.out
         try go_wp2
         have n0_ := Aside0.mk (Kd.R_drew HO_6.out)
         have n1_ := Aside0.mk (Kd.R_drew HO_7.out)
         have n2_ := Aside0.mk (blk_drew BK219.out)
         have n3_ := Aside0.mk (below_drew1 HB.out)
         clear HO_6
         clear HO_7
         clear BK219
         clear HB
         have HO_6 := n0_
         have HO_7 := n1_
         have BK219 := n2_
         have HB := n3_
         clear n0_ n1_ n2_ n3_
         obtain ⟨Ao52, co52, eo52⟩ := Kd.R_slice HO_6.out
         (first | subst eo52 | (injection eo52 with f1_ f2_ f3_; have f4_ := f1_.symm; have f5_ := f3_.symm; clear f1_ f2_ f3_; subst f4_; subst f5_))
         have p226 : 0 ≤ (a1 : Int) := of_decide_eq_true (by first | (with_reducible assumption) | assumption)
         have q226 : a1 < (x6_1.length : Int) := of_decide_eq_true (by first | (with_reducible assumption) | assumption)
         obtain ⟨ad226, e226, hx226_0⟩ := Kd.at_int (Kd.R_reads' HO_6.out).2.2 a1 p226 q226
         cases e226
         replace p226 := eq_true p226
         replace q226 := eq_true q226
         obtain ⟨Ao53, co53, eo53⟩ := Kd.R_slice HO_7.out
         (first | subst eo53 | (injection eo53 with f1_ f2_ f3_; have f4_ := f1_.symm; have f5_ := f3_.symm; clear f1_ f2_ f3_; subst f4_; subst f5_))
         have p227 : 0 ≤ (a1 : Int) := of_decide_eq_true (by first | (with_reducible assumption) | assumption)
         have q227 : a1 < (x7_1.length : Int) := of_decide_eq_true (by first | (with_reducible assumption) | assumption)
         obtain ⟨ad227, e227, hx227_0⟩ := Kd.at_int (Kd.R_reads' HO_7.out).2.2 a1 p227 q227
         cases e227
         replace p227 := eq_true p227
         replace q227 := eq_true q227
         refine start_ (n := 10) (S := fun w' => w'.cell? (ad226.add (a1).toNat) = some (.int .i64 (rd x6_1 a1)) ∧ w'.cell? (ad227.add (a1).toNat) = some (.int .i64 (rd x7_1 a1))) (ds := []) #[O,O,O,O,O,O,O,O,O,O] (by kernel_rfl) rfl rfl ⟨hx226_0, hx227_0⟩ (fun hHeld => ?_); refine with_tabW erratalaw20_path.tab16 erratalaw20_path.bits16 (fun HT_ HW_ => ?_)
         generalize wr.drew = w51 at HO_6 HO_7 BK219 HB hx226_0 hx227_0 hHeld ⊢
         refine pure_ (i := 0) (N := some 94) (v := ?_) (a' := ?_) #[J,O,O,O,O,O,O,O,O,O] rfl rfl (any_of HT_.out (by kernel_rfl)) (fun _ _ _ h => h) (Or.inl ⟨by rfl, ?_⟩) ?_ ?_
         rotate_left
         ·
          intro w'
          go_simp
          with_reducible rfl
         rotate_left
         ·
          simp only [Act.put, List.setIfInBounds_toArray, List.set_cons_zero, List.set_cons_succ, i64_w, i32_w]
          rfl
         refine pure_ (i := 1) (N := some 95) (v := ?_) (a' := ?_) #[J,J,O,O,O,O,O,O,O,O] rfl rfl (any_of HT_.out (by kernel_rfl)) (fun _ _ _ h => h) (Or.inl ⟨by rfl, ?_⟩) ?_ ?_
         rotate_left
         ·
          intro w'
          go_simp
          with_reducible rfl
         rotate_left
         ·
          simp only [Act.put, List.setIfInBounds_toArray, List.set_cons_zero, List.set_cons_succ, i64_w, i32_w]
          rfl
         refine pure_ (i := 2) (N := some 96) (v := ?_) (a' := ?_) #[J,J,J,O,O,O,O,O,O,O] rfl rfl (any_of HT_.out (by kernel_rfl)) (fun _ _ _ h => h) (Or.inl ⟨by rfl, ?_⟩) ?_ ?_
         rotate_left
         ·
          intro w'
          go_simp
          with_reducible rfl
         rotate_left
         ·
          simp only [Act.put, List.setIfInBounds_toArray, List.set_cons_zero, List.set_cons_succ, i64_w, i32_w]
          rfl
         refine pure_ (i := 4) (N := some 98) (v := ?_) (a' := ?_) #[J,J,J,O,J,O,O,O,O,O] rfl rfl (any_of HT_.out (by kernel_rfl)) (fun _ _ _ h => h) (Or.inl ⟨by rfl, ?_⟩) ?_ ?_
         rotate_left
         ·
          intro w'
          go_simp
          with_reducible rfl
         rotate_left
         ·
          simp only [Act.put, List.setIfInBounds_toArray, List.set_cons_zero, List.set_cons_succ, i64_w, i32_w]
          rfl
         refine pure_ (i := 5) (N := some 99) (v := ?_) (a' := ?_) #[J,J,J,O,J,J,O,O,O,O] rfl rfl (any_of HT_.out (by kernel_rfl)) (fun _ _ _ h => h) (Or.inl ⟨by rfl, ?_⟩) ?_ ?_
         rotate_left
         ·
          intro w'
          go_simp
          with_reducible rfl
         rotate_left
         ·
          simp only [Act.put, List.setIfInBounds_toArray, List.set_cons_zero, List.set_cons_succ, i64_w, i32_w]
          rfl
         refine pure_ (i := 6) (N := some 100) (v := ?_) (a' := ?_) #[J,J,J,O,J,J,J,O,O,O] rfl rfl (any_of HT_.out (by kernel_rfl)) (fun _ _ _ h => h) (Or.inl ⟨by rfl, ?_⟩) ?_ ?_
         rotate_left
         ·
          intro w'
          go_simp
          with_reducible rfl
         rotate_left
         ·
          simp only [Act.put, List.setIfInBounds_toArray, List.set_cons_zero, List.set_cons_succ, i64_w, i32_w]
          rfl
         refine take_ (i := 3) (N := some 97) (v := ?_) (a' := ?_) #[J,J,J,J,J,J,J,O,O,O] rfl rfl (take_ofW HT_.out HW_.out (by kernel_rfl)) (fun _ _ _ h => h) (Or.inl ⟨by rfl, ?_⟩) hHeld ?_ ?_
         rotate_left
         ·
          rintro w' ⟨s0, s1⟩
          go_simp
          with_reducible rfl
         rotate_left
         ·
          simp only [Act.put, List.setIfInBounds_toArray, List.set_cons_zero, List.set_cons_succ, i64_w, i32_w]
          rfl
         refine pure_ (i := 8) (N := some 4) (v := ?_) (a' := ?_) #[J,J,J,J,J,J,J,O,J,O] rfl rfl (any_of HT_.out (by kernel_rfl)) (fun _ _ _ h => h) (Or.inl ⟨by rfl, ?_⟩) ?_ ?_
         rotate_left
         ·
          intro w'
          go_simp
          with_reducible rfl
         rotate_left
         ·
          simp only [Act.put, List.setIfInBounds_toArray, List.set_cons_zero, List.set_cons_succ, i64_w, i32_w]
          rfl
         refine take_ (i := 7) (N := some 101) (v := ?_) (a' := ?_) #[J,J,J,J,J,J,J,J,J,O] rfl rfl (take_ofW HT_.out HW_.out (by kernel_rfl)) (fun _ _ _ h => h) (Or.inl ⟨by rfl, ?_⟩) hHeld ?_ ?_
         rotate_left
         ·
          rintro w' ⟨s0, s1⟩
          go_simp
          with_reducible rfl
         rotate_left
         ·
          simp only [Act.put, List.setIfInBounds_toArray, List.set_cons_zero, List.set_cons_succ, i64_w, i32_w]
          rfl
         refine pure_ (i := 9) (N := some 5) (v := ?_) (a' := ?_) #[J,J,J,J,J,J,J,J,J,J] rfl rfl (any_of HT_.out (by kernel_rfl)) (fun _ _ _ h => h) (Or.inl ⟨by rfl, ?_⟩) ?_ ?_
         rotate_left
         ·
          intro w'
          go_simp
          with_reducible rfl
         rotate_left
         ·
          simp only [Act.put, List.setIfInBounds_toArray, List.set_cons_zero, List.set_cons_succ, i64_w, i32_w]
          rfl
         refine done_ (done_of HT_.out (by kernel_rfl)) ?_
         try go_wp2
         go_ret2
         exact ⟨by first | rfl | (simp [errW_none, errW_some] <;> rfl) | (simp [*, errW_none, errW_some] <;> rfl), by repeat (first | (with_reducible first | exact HB.out | apply below_alloc | apply pw_below_drewN | apply below_drew1 | refine below_set ?_ GE219.out) | exact HB.out)⟩
        ·
         rw [if_neg c49] at H
         exact absurd H (by simp)
       ·
        rw [if_neg c48] at H
        exact absurd H (by simp)
      ·
       rw [if_neg c47] at H
       exact absurd H (by simp)
  ·
   rw [if_neg c4] at H
   exact absurd H (by simp)
 ·
  rw [if_neg c3] at H
  exact absurd H (by simp)

end Go.Proofs.Yteoljddobfnfiaa.PB
end
section
namespace Go.Proofs.Yteoljddobfnfiaa.Pure
open Go.RowKit Go.Proofs.YteoljddobfnfiaaW.PrintWords Go.Proofs.YteoljddobfnfiaaW.PrintLast Go.Proofs.YteoljddobfnfiaaW.PrintMore Go.Proofs.Yteoljddobfnfiaa.PB
set_option linter.unusedVariables false
set_option linter.unusedSimpArgs false

def Told (g : Int → Int) (n i : Nat) (v : Int) (x : List Int) : Prop := x.length = n ∧ (∀ j : Nat, j < i → rd x (j : Int) = g (j : Int)) ∧ rd x (i : Int) = v ∧ ∀ j : Nat, i < j → j < n → rd x (j : Int) = 0
theorem rd_set {x : List Int} {i j : Nat} {v : Int} (hj : j < x.length) : rd (x.set i v) (j : Int) = if i = j then v else rd x (j : Int) := by
  rw [rd_at (by rw [List.length_set]; exact hj), rd_at hj, List.getElem_set]
theorem Told.set {g : Int → Int} {n i : Nat} {v : Int} {x : List Int} (h : Told g n i v x) (hi : i < n) (u : Int) : Told g n i u (x.set i u) := by
  obtain ⟨h1, h2, h3, h4⟩ := h
  refine ⟨by rw [List.length_set]; exact h1, fun j hj => ?_, ?_, fun j hj hn => ?_⟩
  · rw [rd_set (by omega), if_neg (by omega), h2 j hj]
  · rw [rd_set (by omega), if_pos rfl]
  · rw [rd_set (by omega), if_neg (by omega), h4 j hj hn]
theorem Told.next {g : Int → Int} {n i : Nat} {x : List Int} (h : Told g n i (g (i : Int)) x) (hi : i + 1 < n) : Told g n (i + 1) 0 x := by
  obtain ⟨h1, h2, h3, h4⟩ := h
  refine ⟨h1, fun j hj => ?_, h4 (i + 1) (by omega) hi, fun j hj hn => h4 j (by omega) hn⟩
  by_cases e : j = i
  · rw [e, h3]
  · exact h2 j (by omega)
def way (g : Int → Int) (o : Int) (l : List Int) (v : Int) : Int := l.foldl (fun s x => mx s (g x + o)) v
theorem way_shift (g : Int → Int) (o : Int) : ∀ (l : List Int) (s : Int), way g o l (s + o) = l.foldl (fun s x => mx s (g x)) s + o
  | [], s => rfl
  | x :: l, s => by
    have ih := way_shift g o l (mx s (g x))
    unfold way at ih ⊢
    rw [List.foldl_cons, List.foldl_cons, ← ih]
    congr 1
    unfold mx
    by_cases h : s < g x
    · rw [if_pos h, if_pos (by omega)]
    · rw [if_neg h, if_neg (by omega)]
theorem way_zero (g : Int → Int) {o : Int} (ho : 0 ≤ o) {l : List Int} (hl : l ≠ []) (hg : ∀ x ∈ l, 0 ≤ g x) : way g o l 0 = l.foldl (fun s x => mx s (g x)) 0 + o := by
  cases l with
  | nil => exact absurd rfl hl
  | cons x l =>
    have hx := hg x List.mem_cons_self
    have e1 : mx 0 (g x + o) = g x + o := by unfold mx; split <;> omega
    have e2 : mx 0 (g x) = g x := by unfold mx; split <;> omega
    have := way_shift g o l (g x)
    unfold way at this ⊢
    rw [List.foldl_cons, List.foldl_cons, e1, e2, this]

theorem path_l1 {g6 g7 : Int → Int} {n i : Nat} (hi : i < n) (hn : n ≤ 40) (l : List S44) (F : List S95) (a1 o1 o2 : Int) (In : List Int) (hin : okIn (i : Int) In = true) (h2 : In.length ≤ 2)
    (ho : 0 ≤ o1 ∧ o1 ≤ 10000) (hp : 0 ≤ o2 ∧ o2 ≤ 10000) (hg : ∀ j : Nat, j < i → (0 ≤ g6 j ∧ g6 j ≤ 400000) ∧ (0 ≤ g7 j ∧ g7 j ≤ 400000)) (r : Int × Int)
    (e6 : g6 (i : Int) = if In.length = 0 then o1 else way g6 o1 In 0) (e7 : g7 (i : Int) = if In.length = 0 then o2 else way g7 o2 In 0)
    (rest : ∀ y6 y7, Told g6 n i (g6 (i : Int)) y6 → Told g7 n i (g7 (i : Int)) y7 → Ev (fun k => erratalaw20_path.l0 k a1 y6 y7 ((i + 1 : Nat) : Int) F l) r) :
    ∀ d j : Nat, j + d = In.length → ∀ v6 v7 x6 x7, Told g6 n i v6 x6 → Told g7 n i v7 x7 → way g6 o1 (In.drop j) v6 = way g6 o1 In 0 → way g7 o2 (In.drop j) v7 = way g7 o2 In 0 →
      Ev (fun k => erratalaw20_path.l1 k a1 x6 x7 (i : Int) o1 o2 In (j : Int) F l) r
  | 0, j, hj, v6, v7, x6, x7, t6, t7, w6, w7 => by
    rw [List.drop_of_length_le (by omega)] at w6 w7
    by_cases e0 : In.length = 0
    · rw [if_pos e0] at e6 e7
      refine Ev.step (fun k => ?_) (rest (x6.set i o1) (x7.set i o2) (by rw [e6]; exact t6.set hi o1) (by rw [e7]; exact t7.set hi o2))
      simp only [erratalaw20_path.l1]
      rw [if_neg (by omega), if_pos (by omega), if_pos (by omega), if_pos (by have := t6.1; omega), if_pos (by have := t7.1; omega), Int.toNat_natCast, wrap_id (by omega) (by omega), cast_succ]
    · rw [if_neg e0, ← w6] at e6
      rw [if_neg e0, ← w7] at e7
      refine Ev.step (fun k => ?_) (rest x6 x7 (by rw [e6]; exact t6) (by rw [e7]; exact t7))
      simp only [erratalaw20_path.l1]
      rw [if_neg (by omega), if_neg (by omega), wrap_id (by omega) (by omega), cast_succ]
  | d + 1, j, hj, v6, v7, x6, x7, t6, t7, w6, w7 => by
    have hjl : j < In.length := by omega
    have e : In.drop j = In[j] :: In.drop (j + 1) := List.drop_eq_getElem_cons hjl
    have hx := okIn_mem hin (List.getElem_mem hjl)
    have ex : ((In[j].toNat : Nat) : Int) = In[j] := Int.toNat_of_nonneg hx.1
    have q6 : rd x6 In[j] = g6 In[j] := by have := t6.2.1 In[j].toNat (by omega); rwa [ex] at this
    have q7 : rd x7 In[j] = g7 In[j] := by have := t7.2.1 In[j].toNat (by omega); rwa [ex] at this
    have hgx := hg In[j].toNat (by omega)
    rw [ex] at hgx
    rw [e] at w6 w7
    have ih := path_l1 hi hn l F a1 o1 o2 In hin h2 ho hp hg r e6 e7 rest d (j + 1) (by omega) (mx v6 (g6 In[j] + o1)) (mx v7 (g7 In[j] + o2)) (x6.set i (mx v6 (g6 In[j] + o1))) (x7.set i (mx v7 (g7 In[j] + o2))) (t6.set hi _) (t7.set hi _) w6 w7
    refine Ev.step (fun k => ?_) ih
    simp only [erratalaw20_path.l1]
    rw [if_pos (by omega), if_pos (by omega), if_pos (by have := t6.1; omega), if_pos (by omega), rd_at hjl, if_pos hx.1, if_pos (by have := t6.1; omega), if_pos (by have := t7.1; omega), if_pos (by have := t7.1; omega),
      Int.toNat_natCast, t6.2.2.1, t7.2.2.1, q6, q7, wrap_id (n := g6 In[j] + o1) (by omega) (by omega), wrap_id (n := g7 In[j] + o2) (by omega) (by omega), wrap_id (n := (j : Int) + 1) (by omega) (by omega), cast_succ]
theorem okB_small {i : Int} (hi : 0 ≤ i ∧ i ≤ 40) {b : S37} (h : okB i b) : (0 ≤ b.f0 ∧ b.f0 ≤ 400000) ∧ (0 ≤ b.f1 ∧ b.f1 ≤ 400000) := by
  unfold okB at h
  omega
theorem path_l0 {l : List S44} {c0 c1 c2 c3 c4 c5 : Int} {bs : List S37} (A : Acc l c0 c1 c2 c3 c4 c5 bs) (F : List S95) (a : Nat) (ha : a < l.length) : ∀ d i : Nat, i + (d + 1) = l.length →
    ∀ x6 x7, Told (fun x => (rd_T37 bs x).f0) l.length i 0 x6 → Told (fun x => (rd_T37 bs x).f1) l.length i 0 x7 → Ev (fun k => erratalaw20_path.l0 k (a : Int) x6 x7 (i : Int) F l) ((rd_T37 bs (a : Int)).f0, (rd_T37 bs (a : Int)).f1) := by
  have hw := well_len A.well
  intro d
  induction d with
  | zero =>
    intro i hi x6 x7 t6 t7
    have hil : i < l.length := by omega
    obtain ⟨k1, k2, k3, k4, k5, k6⟩ := A.node i hil
    obtain ⟨m1, m2, m3⟩ := node_ins k1
    have w := own_range l[i]
    have il := ins_le l[i].f0
    refine Ev.step (f := fun k => erratalaw20_path.l1 k (a : Int) x6 x7 (i : Int) (ownB l[i]) (ownF l[i]) l[i].f1 0 F l) (fun k => ?_) (path_l1 hil (by omega) l F (a : Int) (ownB l[i]) (ownF l[i]) l[i].f1 m3 (by omega) ⟨w.1, w.2.1⟩ w.2.2
      (fun j hj => okB_small (by omega) (A.node j (by omega)).2.2.2.1) _ ?_ ?_ ?_ l[i].f1.length 0 (by omega) 0 0 x6 x7 t6 t7 rfl rfl)
    · simp only [erratalaw20_path.l0]
      rw [if_pos (by omega), if_pos (by omega), rd44_at hil, Own_eq, Option.bind_some]
    · rw [k3]
      by_cases e : l[i].f1.length = 0
      · rw [if_pos e, List.length_eq_zero_iff.1 e |> fun h => show (boundOf bs c0 c4 c5 l[i]).f0 = ownB l[i] by unfold boundOf; dsimp only; rw [h]; simp [backOf]]
      · rw [if_neg e, way_zero _ w.1 (fun h => e (by rw [h]; rfl)) (fun x hx => (pre_at A.pre (okIn_mem m3 hx).1 (by have := (okIn_mem m3 hx).2; omega)).1.1)]
        rfl
    · rw [k3]
      by_cases e : l[i].f1.length = 0
      · rw [if_pos e, List.length_eq_zero_iff.1 e |> fun h => show (boundOf bs c0 c4 c5 l[i]).f1 = ownF l[i] by unfold boundOf; dsimp only; rw [h]; simp [foreOf]]
      · rw [if_neg e, way_zero _ w.2.2.1 (fun h => e (by rw [h]; rfl)) (fun x hx => (pre_at A.pre (okIn_mem m3 hx).1 (by have := (okIn_mem m3 hx).2; omega)).2.1.1)]
        rfl
    · intro y6 y7 u6 u7
      have z : ∀ (g : Int → Int) y, Told g l.length i (g (i : Int)) y → rd y (a : Int) = g (a : Int) := by
        intro g y u
        by_cases e : a = i
        · rw [e]; exact u.2.2.1
        · exact u.2.1 a (by omega)
      refine Ev.step (fun k => ?_) (Ev.now _)
      simp only [erratalaw20_path.l0]
      rw [if_neg (by omega), if_pos (by omega), if_pos (by have := u6.1; omega), if_pos (by have := u7.1; omega), z _ _ u6, z _ _ u7]
  | succ d ih =>
    intro i hi x6 x7 t6 t7
    have hil : i < l.length := by omega
    obtain ⟨k1, k2, k3, k4, k5, k6⟩ := A.node i hil
    obtain ⟨m1, m2, m3⟩ := node_ins k1
    have w := own_range l[i]
    have il := ins_le l[i].f0
    refine Ev.step (f := fun k => erratalaw20_path.l1 k (a : Int) x6 x7 (i : Int) (ownB l[i]) (ownF l[i]) l[i].f1 0 F l) (fun k => ?_) (path_l1 hil (by omega) l F (a : Int) (ownB l[i]) (ownF l[i]) l[i].f1 m3 (by omega) ⟨w.1, w.2.1⟩ w.2.2
      (fun j hj => okB_small (by omega) (A.node j (by omega)).2.2.2.1) _ ?_ ?_ ?_ l[i].f1.length 0 (by omega) 0 0 x6 x7 t6 t7 rfl rfl)
    · simp only [erratalaw20_path.l0]
      rw [if_pos (by omega), if_pos (by omega), rd44_at hil, Own_eq, Option.bind_some]
    · rw [k3]
      by_cases e : l[i].f1.length = 0
      · rw [if_pos e, List.length_eq_zero_iff.1 e |> fun h => show (boundOf bs c0 c4 c5 l[i]).f0 = ownB l[i] by unfold boundOf; dsimp only; rw [h]; simp [backOf]]
      · rw [if_neg e, way_zero _ w.1 (fun h => e (by rw [h]; rfl)) (fun x hx => (pre_at A.pre (okIn_mem m3 hx).1 (by have := (okIn_mem m3 hx).2; omega)).1.1)]
        rfl
    · rw [k3]
      by_cases e : l[i].f1.length = 0
      · rw [if_pos e, List.length_eq_zero_iff.1 e |> fun h => show (boundOf bs c0 c4 c5 l[i]).f1 = ownF l[i] by unfold boundOf; dsimp only; rw [h]; simp [foreOf]]
      · rw [if_neg e, way_zero _ w.2.2.1 (fun h => e (by rw [h]; rfl)) (fun x hx => (pre_at A.pre (okIn_mem m3 hx).1 (by have := (okIn_mem m3 hx).2; omega)).2.1.1)]
        rfl
    · intro y6 y7 u6 u7
      exact ih (i + 1) (by omega) y6 y7 (u6.next (by omega)) (u7.next (by omega))
theorem path_ev {l : List S44} {c0 c1 c2 c3 c4 c5 : Int} {bs : List S37} (A : Acc l c0 c1 c2 c3 c4 c5 bs) (F : List S95) (a : Nat) (ha : a < l.length) :
    Ev (fun k => erratalaw20_path.f k F l (a : Int)) ((rd_T37 bs (a : Int)).f0, (rd_T37 bs (a : Int)).f1) := by
  have hw := well_len A.well
  have z : ∀ g : Int → Int, Told g l.length 0 0 (List.replicate l.length 0) := by
    intro g
    have y : ∀ j : Nat, j < l.length → rd (List.replicate l.length 0) (j : Int) = 0 := fun j hj => by
      rw [rd_at (by rw [List.length_replicate]; exact hj), List.getElem_replicate]
    exact ⟨List.length_replicate, fun j hj => absurd hj (Nat.not_lt_zero j), y 0 (by omega), fun j h0 hj => y j hj⟩
  refine Ev.congr (fun k => ?_) (path_l0 A F a ha (l.length - 1) 0 (by omega) _ _ (z _) (z _))
  unfold erratalaw20_path.f
  rw [if_pos (by omega), Int.toNat_natCast, if_pos (by omega)]
  rfl
end Go.Proofs.Yteoljddobfnfiaa.Pure
end
section
namespace Go.Proofs.Yteoljddobfnfiaa.PB
open Go.RowKit Go.Proofs.YteoljddobfnfiaaW.PrintWords Go.Proofs.YteoljddobfnfiaaW.PrintLast Go.Proofs.YteoljddobfnfiaaW.PrintMore
attribute [local go_sem] max2_int min2_int max_two min_two max_three min_three max_four min_four
attribute [local go_sem ↓ high] Go.Proofs.Yteoljddobfnfiaa.My.ld44_eq Go.Proofs.Yteoljddobfnfiaa.My.st44_eq Go.Proofs.Yteoljddobfnfiaa.My.ld27_eq Go.Proofs.Yteoljddobfnfiaa.My.st27_eq Go.Proofs.Yteoljddobfnfiaa.My.ld37_eq Go.Proofs.Yteoljddobfnfiaa.My.st37_eq Go.Proofs.Yteoljddobfnfiaa.My.ld65_eq Go.Proofs.Yteoljddobfnfiaa.My.st65_eq
attribute [local go_sem high] Go.Proofs.Yteoljddobfnfiaa.My.ld44_run Go.Proofs.Yteoljddobfnfiaa.My.st44_run Go.Proofs.Yteoljddobfnfiaa.My.ld27_run Go.Proofs.Yteoljddobfnfiaa.My.st27_run Go.Proofs.Yteoljddobfnfiaa.My.ld37_run Go.Proofs.Yteoljddobfnfiaa.My.st37_run Go.Proofs.Yteoljddobfnfiaa.My.ld65_run Go.Proofs.Yteoljddobfnfiaa.My.st65_run
open Go.Proofs.Yteoljddobfnfiaa.My
attribute [local go_sem] cell_map run_store_fnV one_int one_bool one_string one_slice one_fnV
set_option linter.unusedVariables false
set_option linter.unusedSimpArgs false

mutual
def erratalaw20_BoundsPaths.l0 : Nat → Bool → List (S37) → Int → List (S95) → List (S44) → Option (Bool)
  | 0, _, _, _, _, _ => none
  | k + 1, x5, x6, x9, x243000, x243001 => if x9 < (x6.length : Int) then ((erratalaw20_path.f k x243000 x243001 x9).bind fun bt251 => (if 0 ≤ x9 then (if ((rd_T37 x6 x9).f0) = bt251.1 then (if ((rd_T37 x6 x9).f1) = bt251.2 then (if ((rd_T37 x6 x9).f2) < 1 then (erratalaw20_BoundsPaths.j1 k x5 x6 x9 true x243000 x243001) else (if x9 < (x243001.length : Int) then (erratalaw20_BoundsPaths.j1 k x5 x6 x9 ((((rd_T37 x6 x9).f3) == 0) != (decide (((rd_T44 x243001 x9).f0) ≤ 3))) x243000 x243001) else (none))) else (erratalaw20_BoundsPaths.j1 k x5 x6 x9 true x243000 x243001)) else (erratalaw20_BoundsPaths.j1 k x5 x6 x9 true x243000 x243001)) else (none))) else (some x5)
def erratalaw20_BoundsPaths.j1 : Nat → Bool → List (S37) → Int → Bool → List (S95) → List (S44) → Option (Bool)
  | 0, _, _, _, _, _, _ => none
  | k + 1, x5, x6, x9, x91, x243000, x243001 => if x91 = true then (some false) else (erratalaw20_BoundsPaths.l1 k x5 x6 x9 0 x243000 x243001)
def erratalaw20_BoundsPaths.l1 : Nat → Bool → List (S37) → Int → Int → List (S95) → List (S44) → Option (Bool)
  | 0, _, _, _, _, _, _ => none
  | k + 1, x5, x6, x9, x12, x243000, x243001 => if 0 ≤ x9 then (if x9 < (x243001.length : Int) then (if x12 < (((rd_T44 x243001 x9).f1).length : Int) then (if 0 ≤ x12 then (if 0 ≤ (rd ((rd_T44 x243001 x9).f1) x12) then (if (rd ((rd_T44 x243001 x9).f1) x12) < (x6.length : Int) then (if x9 < (x6.length : Int) then (if ((rd_T37 x6 x9).f0) < ((rd_T37 x6 (rd ((rd_T44 x243001 x9).f1) x12)).f0) then (erratalaw20_BoundsPaths.j3 k x5 x6 x9 x12 true x243000 x243001) else (if ((rd_T37 x6 x9).f1) < ((rd_T37 x6 (rd ((rd_T44 x243001 x9).f1) x12)).f1) then (erratalaw20_BoundsPaths.j3 k x5 x6 x9 x12 true x243000 x243001) else (if ((rd_T37 x6 x9).f2) < ((rd_T37 x6 (rd ((rd_T44 x243001 x9).f1) x12)).f2) then (if ((rd_T44 x243001 x9).f0) = 7 then (erratalaw20_BoundsPaths.j3 k x5 x6 x9 x12 (x12 == 0) x243000 x243001) else (erratalaw20_BoundsPaths.j3 k x5 x6 x9 x12 true x243000 x243001)) else (erratalaw20_BoundsPaths.j3 k x5 x6 x9 x12 false x243000 x243001)))) else (none)) else (none)) else (none)) else (none)) else (erratalaw20_BoundsPaths.l0 k x5 x6 (wrap64 (x9 + 1)) x243000 x243001)) else (none)) else (none)
def erratalaw20_BoundsPaths.j3 : Nat → Bool → List (S37) → Int → Int → Bool → List (S95) → List (S44) → Option (Bool)
  | 0, _, _, _, _, _, _, _ => none
  | k + 1, x5, x6, x9, x12, x155, x243000, x243001 => if x155 = true then (some false) else (erratalaw20_BoundsPaths.l1 k x5 x6 x9 (wrap64 (x12 + 1)) x243000 x243001)
end
def erratalaw20_BoundsPaths.f (k : Nat) (l0_0 : List (S95)) (l0_1 : List (S44)) (a1_0 : Int) (a1_1 : Int) (a1_2 : Int) (a1_3 : Int) (a1_4 : Int) (a1_5 : Int) : Option (Bool) := (erratalaw20_small.f k).bind fun t244 => ((erratalaw20_few.f k l0_0 l0_1).bind fun t245 => (if t245 = true then ((bounds_Analyze.f k l0_0 l0_1 a1_0 a1_1 a1_2 a1_3 a1_4 a1_5).bind fun bt246 => (if bt246.2.2 = 0 then (if (bt246.1.length : Int) = (l0_1.length : Int) then (erratalaw20_BoundsPaths.l0 k t244 bt246.1 0 l0_0 l0_1) else (some false)) else (if t244 = true then (some ((bt246.1.length : Int) == 0)) else (some false)))) else (some t244)))
set_option maxHeartbeats 8000000 in
set_option maxRecDepth 100000 in
theorem erratalaw20_BoundsPaths.calls (k : Nat) (A0_0 : Option Addr) (c0_0 : Nat) (l0_0 : List (S95)) (A0_1 : Option Addr) (c0_1 : Nat) (l0_1 : List (S44)) (a1_0 : Int) (a1_1 : Int) (a1_2 : Int) (a1_3 : Int) (a1_4 : Int) (a1_5 : Int) (w : World) (hr0_0 : Kd.C k95 w A0_0 l0_0.length l0_0) (hc0_0 : l0_0.length ≤ c0_0) (hr0_1 : Kd.C k44 w A0_1 l0_1.length l0_1) (hc0_1 : l0_1.length ≤ c0_1) (h : erratalaw20_BoundsPaths.f k l0_0 l0_1 a1_0 a1_1 a1_2 a1_3 a1_4 a1_5 = some true) :
    Calls Try.prog 3 #[.agg #[.slice A0_0 l0_0.length c0_0, .slice A0_1 l0_1.length c0_1], .agg #[.int .i64 a1_0, .int .i64 a1_1, .int .i64 a1_2, .int .i64 a1_3, .int .i64 a1_4, .int .i64 a1_5]] w fun e w' => e = .returned (.bool true) ∧ Below w.heap.size w w' := by
 have hu25 := Try.underlying25
 have hu27 := Try.underlying27
 have hu37 := Try.underlying37
 have HR0_0 := Aside0.mk hr0_0
 have HC0_0 := Aside0.mk hc0_0
 clear hr0_0 hc0_0
 have HR0_1 := Aside0.mk hr0_1
 have HC0_1 := Aside0.mk hc0_1
 clear hr0_1 hc0_1
 have HB := Aside0.mk (Below.refl w.heap.size w)
 have H : ((erratalaw20_small.f k).bind fun t244 => ((erratalaw20_few.f k l0_0 l0_1).bind fun t245 => (if t245 = true then ((bounds_Analyze.f k l0_0 l0_1 a1_0 a1_1 a1_2 a1_3 a1_4 a1_5).bind fun bt246 => (if bt246.2.2 = 0 then (if (bt246.1.length : Int) = (l0_1.length : Int) then (erratalaw20_BoundsPaths.l0 k t244 bt246.1 0 l0_0 l0_1) else (some false)) else (if t244 = true then (some ((bt246.1.length : Int) == 0)) else (some false)))) else (some t244)))) = some true := h
 clear h
 replace H := Option.bind_eq_some_iff.mp H
 obtain ⟨t244, A30, H⟩ := H
 replace H : ((erratalaw20_few.f k l0_0 l0_1).bind fun t245 => (if t245 = true then ((bounds_Analyze.f k l0_0 l0_1 a1_0 a1_1 a1_2 a1_3 a1_4 a1_5).bind fun bt246 => (if bt246.2.2 = 0 then (if (bt246.1.length : Int) = (l0_1.length : Int) then (erratalaw20_BoundsPaths.l0 k t244 bt246.1 0 l0_0 l0_1) else (some false)) else (if t244 = true then (some ((bt246.1.length : Int) == 0)) else (some false)))) else (some t244))) = some true := H
 have A3 := Aside0.mk A30
 clear A30
 replace H := Option.bind_eq_some_iff.mp H
 obtain ⟨t245, A40, H⟩ := H
 replace H : (if t245 = true then ((bounds_Analyze.f k l0_0 l0_1 a1_0 a1_1 a1_2 a1_3 a1_4 a1_5).bind fun bt246 => (if bt246.2.2 = 0 then (if (bt246.1.length : Int) = (l0_1.length : Int) then (erratalaw20_BoundsPaths.l0 k t244 bt246.1 0 l0_0 l0_1) else (some false)) else (if t244 = true then (some ((bt246.1.length : Int) == 0)) else (some false)))) else (some t244)) = some true := H
 have A4 := Aside0.mk A40
 clear A40
 by_cases c5 : t245 = true
 ·
  subst c5
  have H1 : ((bounds_Analyze.f k l0_0 l0_1 a1_0 a1_1 a1_2 a1_3 a1_4 a1_5).bind fun bt246 => (if bt246.2.2 = 0 then (if (bt246.1.length : Int) = (l0_1.length : Int) then (erratalaw20_BoundsPaths.l0 k t244 bt246.1 0 l0_0 l0_1) else (some false)) else (if t244 = true then (some ((bt246.1.length : Int) == 0)) else (some false)))) = some true := by rw [if_pos rfl] at H; exact H
  clear H
  have H := H1
  clear H1
  replace H := Option.bind_eq_some_iff.mp H
  obtain ⟨⟨t246, t249, t250⟩, A60, H⟩ := H
  replace H : (if t250 = 0 then (if (t246.length : Int) = (l0_1.length : Int) then (erratalaw20_BoundsPaths.l0 k t244 t246 0 l0_0 l0_1) else (some false)) else (if t244 = true then (some ((t246.length : Int) == 0)) else (some false))) = some true := H
  have A6 := Aside0.mk A60
  clear A60
  by_cases c7 : t250 = 0
  ·
   rw [if_pos c7] at H
   have c7b0 : (t250 == 0) = true := beq_iff_eq.mpr c7
   have c7b1 : (t250 != 0) = false := bne_eq_false_iff_eq.mpr c7
   clear c7
   by_cases c8 : (t246.length : Int) = (l0_1.length : Int)
   ·
    rw [if_pos c8] at H
    have c8b0 : ((t246.length : Int) == (l0_1.length : Int)) = true := beq_iff_eq.mpr c8
    have c8b1 : ((t246.length : Int) != (l0_1.length : Int)) = false := bne_eq_false_iff_eq.mpr c8
    have c8b2 : (t246.length == l0_1.length) = true := by first | simpa using c8 | (simp at c8 ⊢; omega)
    clear c8
    have H' := Aside0.mk H
    clear H
    go_enter Try.func3, Try.ntmps3
    go_wp2_with (first | ((with_reducible refine gate_dst (N := 2) rfl ?_); (try (refine gate_guard (by rfl) ?_; dsimp only)); refine box_event ?hg (N := 2) ?hd (cs := #[.slice A0_0 l0_0.length c0_0, .slice A0_1 l0_1.length c0_1]) (t := 25) ?hr ?_; (case hd => rfl); (case hg => rfl); (case hr => first | (go_simp; done) | (go_simp; rfl)); intro gb242 hg w9 hbox hb; have n0_ := Aside0.mk (below_stepA hb); have n1_ := Aside0.mk (hbox); have n2_ := Aside0.mk ((by rw [hg]; exact below_sizeA : w.heap.size ≤ gb242)); have n3_ := Aside0.mk ((by rw [hg]; exact below_sizeA : w.heap.size ≤ gb242)); clear HB; have HB := n0_; have BK242 := n1_; have GW242 := n2_; have GE242 := n3_; clear n0_ n1_ n2_ n3_; clear hb hbox hg) | ((with_reducible refine gate_dst (N := 3) rfl ?_); (try (refine gate_guard (by rfl) ?_; dsimp only)); refine box_event ?hg (N := 3) ?hd (cs := #[.int .i64 a1_0, .int .i64 a1_1, .int .i64 a1_2, .int .i64 a1_3, .int .i64 a1_4, .int .i64 a1_5]) (t := 27) ?hr ?_; (case hd => rfl); (case hg => rfl); (case hr => first | (go_simp; done) | (go_simp; rfl)); intro gb243 hg w10 hbox hb; have n0_ := Aside0.mk (blk_keepA BK242.out hb); have n1_ := Aside0.mk (below_stepA hb); have n2_ := Aside0.mk (hbox); have n3_ := Aside0.mk ((by rw [hg]; exact below_sizeA : w.heap.size ≤ gb243)); have n4_ := Aside0.mk ((by rw [hg]; exact below_sizeA : w.heap.size ≤ gb243)); have n5_ := Aside0.mk ((by rw [hg]; exact Nat.ne_of_lt (blk_ltKA BK242.out) : gb242 ≠ gb243)); have n6_ := Aside0.mk ((by rw [hg]; exact Nat.ne_of_gt (blk_ltKA BK242.out) : gb243 ≠ gb242)); clear BK242; clear HB; have BK242 := n0_; have HB := n1_; have BK243 := n2_; have GW243 := n3_; have GE243 := n4_; have NB242_243 := n5_; have NB243_242 := n6_; clear n0_ n1_ n2_ n3_ n4_ n5_ n6_; clear hb hbox hg) | (go_at_call 7; (with_reducible refine (erratalaw20_small.calls k  t244 _ A3.out).mono ?_); rintro e w11 ⟨rfl, hb⟩; have n0_ := Aside0.mk (blk_keepA BK242.out hb); have n1_ := Aside0.mk (blk_keepA BK243.out hb); have n2_ := Aside0.mk (below_stepA hb); clear BK242; clear BK243; clear HB; have BK242 := n0_; have BK243 := n1_; have HB := n2_; clear n0_ n1_ n2_; (try clear hb); (try clear hb2); (try clear hk); (try clear hi); have hnb12 := NB242_243.out; have hnc12 := NB243_242.out; obtain ⟨hcz13_0, hcz13_1, hfz13_0, hfz13_1⟩ := blk2 BK242.out) | (go_at_call 8; (with_reducible refine (erratalaw20_few.calls k _ _ l0_0 _ _ l0_1 true _ ?side1 ?side2 ?side3 ?side4 A4.out).mono ?_); (case side1 => exact c_belowA HR0_0.out); (case side2 => exact HC0_0.out); (case side3 => exact c_belowA HR0_1.out); (case side4 => exact HC0_1.out); rintro e w14 ⟨rfl, hb⟩; have n0_ := Aside0.mk (blk_keepA BK242.out hb); have n1_ := Aside0.mk (blk_keepA BK243.out hb); have n2_ := Aside0.mk (below_stepA hb); clear BK242; clear BK243; clear HB; have BK242 := n0_; have BK243 := n1_; have HB := n2_; clear n0_ n1_ n2_; (try clear hb); (try clear hb2); (try clear hk); (try clear hi); obtain ⟨hcz15_0, hcz15_1, hfz15_0, hfz15_1⟩ := blk2 BK242.out; obtain ⟨hcz16_0, hcz16_1, hcz16_2, hcz16_3, hcz16_4, hcz16_5, hfz16_0, hfz16_1, hfz16_2, hfz16_3, hfz16_4, hfz16_5⟩ := blk6 BK243.out) | (go_at_call 9; (with_reducible refine (bounds_Analyze.calls k _ _ l0_0 _ _ l0_1 a1_0 a1_1 a1_2 a1_3 a1_4 a1_5 t246 t249 t250 _ ?side1 ?side2 ?side3 ?side4 A6.out).mono ?_); (case side1 => exact c_belowA HR0_0.out); (case side2 => exact HC0_0.out); (case side3 => exact c_belowA HR0_1.out); (case side4 => exact HC0_1.out); rintro e w17 ⟨v247, rfl, ho0, hb⟩; have n0_ := Aside0.mk (Kd.R_lower ho0 below_sizeA); have n1_ := Aside0.mk (blk_keepA BK242.out hb); have n2_ := Aside0.mk (blk_keepA BK243.out hb); have n3_ := Aside0.mk (below_stepA hb); clear BK242; clear BK243; clear HB; have HO248 := n0_; have BK242 := n1_; have BK243 := n2_; have HB := n3_; clear n0_ n1_ n2_ n3_; (try clear hb); (try clear hb2); (try clear hk); (try clear hi); (try clear ho0); obtain ⟨Ao18, co18, eo18⟩ := Kd.R_slice HO248.out; subst eo18; obtain ⟨hcz19_0, hcz19_1, hfz19_0, hfz19_1⟩ := blk2 BK242.out))
    repeat (go_quiet (first | ((with_reducible refine gate_dst (N := 2) rfl ?_); (try (refine gate_guard (by rfl) ?_; dsimp only)); refine box_event ?hg (N := 2) ?hd (cs := #[.slice A0_0 l0_0.length c0_0, .slice A0_1 l0_1.length c0_1]) (t := 25) ?hr ?_; (case hd => rfl); (case hg => rfl); (case hr => first | (go_simp; done) | (go_simp; rfl)); intro gb242 hg w9 hbox hb; have n0_ := Aside0.mk (below_stepA hb); have n1_ := Aside0.mk (hbox); have n2_ := Aside0.mk ((by rw [hg]; exact below_sizeA : w.heap.size ≤ gb242)); have n3_ := Aside0.mk ((by rw [hg]; exact below_sizeA : w.heap.size ≤ gb242)); clear HB; have HB := n0_; have BK242 := n1_; have GW242 := n2_; have GE242 := n3_; clear n0_ n1_ n2_ n3_; clear hb hbox hg) | ((with_reducible refine gate_dst (N := 3) rfl ?_); (try (refine gate_guard (by rfl) ?_; dsimp only)); refine box_event ?hg (N := 3) ?hd (cs := #[.int .i64 a1_0, .int .i64 a1_1, .int .i64 a1_2, .int .i64 a1_3, .int .i64 a1_4, .int .i64 a1_5]) (t := 27) ?hr ?_; (case hd => rfl); (case hg => rfl); (case hr => first | (go_simp; done) | (go_simp; rfl)); intro gb243 hg w10 hbox hb; have n0_ := Aside0.mk (blk_keepA BK242.out hb); have n1_ := Aside0.mk (below_stepA hb); have n2_ := Aside0.mk (hbox); have n3_ := Aside0.mk ((by rw [hg]; exact below_sizeA : w.heap.size ≤ gb243)); have n4_ := Aside0.mk ((by rw [hg]; exact below_sizeA : w.heap.size ≤ gb243)); have n5_ := Aside0.mk ((by rw [hg]; exact Nat.ne_of_lt (blk_ltKA BK242.out) : gb242 ≠ gb243)); have n6_ := Aside0.mk ((by rw [hg]; exact Nat.ne_of_gt (blk_ltKA BK242.out) : gb243 ≠ gb242)); clear BK242; clear HB; have BK242 := n0_; have HB := n1_; have BK243 := n2_; have GW243 := n3_; have GE243 := n4_; have NB242_243 := n5_; have NB243_242 := n6_; clear n0_ n1_ n2_ n3_ n4_ n5_ n6_; clear hb hbox hg) | (go_at_call 7; (with_reducible refine (erratalaw20_small.calls k  t244 _ A3.out).mono ?_); rintro e w11 ⟨rfl, hb⟩; have n0_ := Aside0.mk (blk_keepA BK242.out hb); have n1_ := Aside0.mk (blk_keepA BK243.out hb); have n2_ := Aside0.mk (below_stepA hb); clear BK242; clear BK243; clear HB; have BK242 := n0_; have BK243 := n1_; have HB := n2_; clear n0_ n1_ n2_; (try clear hb); (try clear hb2); (try clear hk); (try clear hi); have hnb12 := NB242_243.out; have hnc12 := NB243_242.out; obtain ⟨hcz13_0, hcz13_1, hfz13_0, hfz13_1⟩ := blk2 BK242.out) | (go_at_call 8; (with_reducible refine (erratalaw20_few.calls k _ _ l0_0 _ _ l0_1 true _ ?side1 ?side2 ?side3 ?side4 A4.out).mono ?_); (case side1 => exact c_belowA HR0_0.out); (case side2 => exact HC0_0.out); (case side3 => exact c_belowA HR0_1.out); (case side4 => exact HC0_1.out); rintro e w14 ⟨rfl, hb⟩; have n0_ := Aside0.mk (blk_keepA BK242.out hb); have n1_ := Aside0.mk (blk_keepA BK243.out hb); have n2_ := Aside0.mk (below_stepA hb); clear BK242; clear BK243; clear HB; have BK242 := n0_; have BK243 := n1_; have HB := n2_; clear n0_ n1_ n2_; (try clear hb); (try clear hb2); (try clear hk); (try clear hi); obtain ⟨hcz15_0, hcz15_1, hfz15_0, hfz15_1⟩ := blk2 BK242.out; obtain ⟨hcz16_0, hcz16_1, hcz16_2, hcz16_3, hcz16_4, hcz16_5, hfz16_0, hfz16_1, hfz16_2, hfz16_3, hfz16_4, hfz16_5⟩ := blk6 BK243.out) | (go_at_call 9; (with_reducible refine (bounds_Analyze.calls k _ _ l0_0 _ _ l0_1 a1_0 a1_1 a1_2 a1_3 a1_4 a1_5 t246 t249 t250 _ ?side1 ?side2 ?side3 ?side4 A6.out).mono ?_); (case side1 => exact c_belowA HR0_0.out); (case side2 => exact HC0_0.out); (case side3 => exact c_belowA HR0_1.out); (case side4 => exact HC0_1.out); rintro e w17 ⟨v247, rfl, ho0, hb⟩; have n0_ := Aside0.mk (Kd.R_lower ho0 below_sizeA); have n1_ := Aside0.mk (blk_keepA BK242.out hb); have n2_ := Aside0.mk (blk_keepA BK243.out hb); have n3_ := Aside0.mk (below_stepA hb); clear BK242; clear BK243; clear HB; have HO248 := n0_; have BK242 := n1_; have BK243 := n2_; have HB := n3_; clear n0_ n1_ n2_ n3_; (try clear hb); (try clear hb2); (try clear hk); (try clear hi); (try clear ho0); obtain ⟨Ao18, co18, eo18⟩ := Kd.R_slice HO248.out; subst eo18; obtain ⟨hcz19_0, hcz19_1, hfz19_0, hfz19_1⟩ := blk2 BK242.out)); try go_wp2_with (first | ((with_reducible refine gate_dst (N := 2) rfl ?_); (try (refine gate_guard (by rfl) ?_; dsimp only)); refine box_event ?hg (N := 2) ?hd (cs := #[.slice A0_0 l0_0.length c0_0, .slice A0_1 l0_1.length c0_1]) (t := 25) ?hr ?_; (case hd => rfl); (case hg => rfl); (case hr => first | (go_simp; done) | (go_simp; rfl)); intro gb242 hg w9 hbox hb; have n0_ := Aside0.mk (below_stepA hb); have n1_ := Aside0.mk (hbox); have n2_ := Aside0.mk ((by rw [hg]; exact below_sizeA : w.heap.size ≤ gb242)); have n3_ := Aside0.mk ((by rw [hg]; exact below_sizeA : w.heap.size ≤ gb242)); clear HB; have HB := n0_; have BK242 := n1_; have GW242 := n2_; have GE242 := n3_; clear n0_ n1_ n2_ n3_; clear hb hbox hg) | ((with_reducible refine gate_dst (N := 3) rfl ?_); (try (refine gate_guard (by rfl) ?_; dsimp only)); refine box_event ?hg (N := 3) ?hd (cs := #[.int .i64 a1_0, .int .i64 a1_1, .int .i64 a1_2, .int .i64 a1_3, .int .i64 a1_4, .int .i64 a1_5]) (t := 27) ?hr ?_; (case hd => rfl); (case hg => rfl); (case hr => first | (go_simp; done) | (go_simp; rfl)); intro gb243 hg w10 hbox hb; have n0_ := Aside0.mk (blk_keepA BK242.out hb); have n1_ := Aside0.mk (below_stepA hb); have n2_ := Aside0.mk (hbox); have n3_ := Aside0.mk ((by rw [hg]; exact below_sizeA : w.heap.size ≤ gb243)); have n4_ := Aside0.mk ((by rw [hg]; exact below_sizeA : w.heap.size ≤ gb243)); have n5_ := Aside0.mk ((by rw [hg]; exact Nat.ne_of_lt (blk_ltKA BK242.out) : gb242 ≠ gb243)); have n6_ := Aside0.mk ((by rw [hg]; exact Nat.ne_of_gt (blk_ltKA BK242.out) : gb243 ≠ gb242)); clear BK242; clear HB; have BK242 := n0_; have HB := n1_; have BK243 := n2_; have GW243 := n3_; have GE243 := n4_; have NB242_243 := n5_; have NB243_242 := n6_; clear n0_ n1_ n2_ n3_ n4_ n5_ n6_; clear hb hbox hg) | (go_at_call 7; (with_reducible refine (erratalaw20_small.calls k  t244 _ A3.out).mono ?_); rintro e w11 ⟨rfl, hb⟩; have n0_ := Aside0.mk (blk_keepA BK242.out hb); have n1_ := Aside0.mk (blk_keepA BK243.out hb); have n2_ := Aside0.mk (below_stepA hb); clear BK242; clear BK243; clear HB; have BK242 := n0_; have BK243 := n1_; have HB := n2_; clear n0_ n1_ n2_; (try clear hb); (try clear hb2); (try clear hk); (try clear hi); have hnb12 := NB242_243.out; have hnc12 := NB243_242.out; obtain ⟨hcz13_0, hcz13_1, hfz13_0, hfz13_1⟩ := blk2 BK242.out) | (go_at_call 8; (with_reducible refine (erratalaw20_few.calls k _ _ l0_0 _ _ l0_1 true _ ?side1 ?side2 ?side3 ?side4 A4.out).mono ?_); (case side1 => exact c_belowA HR0_0.out); (case side2 => exact HC0_0.out); (case side3 => exact c_belowA HR0_1.out); (case side4 => exact HC0_1.out); rintro e w14 ⟨rfl, hb⟩; have n0_ := Aside0.mk (blk_keepA BK242.out hb); have n1_ := Aside0.mk (blk_keepA BK243.out hb); have n2_ := Aside0.mk (below_stepA hb); clear BK242; clear BK243; clear HB; have BK242 := n0_; have BK243 := n1_; have HB := n2_; clear n0_ n1_ n2_; (try clear hb); (try clear hb2); (try clear hk); (try clear hi); obtain ⟨hcz15_0, hcz15_1, hfz15_0, hfz15_1⟩ := blk2 BK242.out; obtain ⟨hcz16_0, hcz16_1, hcz16_2, hcz16_3, hcz16_4, hcz16_5, hfz16_0, hfz16_1, hfz16_2, hfz16_3, hfz16_4, hfz16_5⟩ := blk6 BK243.out) | (go_at_call 9; (with_reducible refine (bounds_Analyze.calls k _ _ l0_0 _ _ l0_1 a1_0 a1_1 a1_2 a1_3 a1_4 a1_5 t246 t249 t250 _ ?side1 ?side2 ?side3 ?side4 A6.out).mono ?_); (case side1 => exact c_belowA HR0_0.out); (case side2 => exact HC0_0.out); (case side3 => exact c_belowA HR0_1.out); (case side4 => exact HC0_1.out); rintro e w17 ⟨v247, rfl, ho0, hb⟩; have n0_ := Aside0.mk (Kd.R_lower ho0 below_sizeA); have n1_ := Aside0.mk (blk_keepA BK242.out hb); have n2_ := Aside0.mk (blk_keepA BK243.out hb); have n3_ := Aside0.mk (below_stepA hb); clear BK242; clear BK243; clear HB; have HO248 := n0_; have BK242 := n1_; have BK243 := n2_; have HB := n3_; clear n0_ n1_ n2_ n3_; (try clear hb); (try clear hb2); (try clear hk); (try clear hi); (try clear ho0); obtain ⟨Ao18, co18, eo18⟩ := Kd.R_slice HO248.out; subst eo18; obtain ⟨hcz19_0, hcz19_1, hfz19_0, hfz19_1⟩ := blk2 BK242.out)))
    go_loopg [9] k (fun kq v9 w' => ∃ (x9_1 : Int), v9 = .int .i64 x9_1 ∧ Aside0 (erratalaw20_BoundsPaths.l0 kq t244 t246 x9_1 l0_0 l0_1 = some true) ∧ Aside0 (kq ≤ k) ∧ Aside0 (Kd.R k37 37 w' w.heap.size (fun _ => True) (.slice Ao18 t246.length co18) t246) ∧ Aside0 (w'.heap[gb242]? = some (.cells #[(.slice A0_0 l0_0.length c0_0), (.slice A0_1 l0_1.length c0_1)] 25 (0, 0))) ∧ Aside0 (w'.heap[gb243]? = some (.cells #[.int .i64 a1_0, .int .i64 a1_1, .int .i64 a1_2, .int .i64 a1_3, .int .i64 a1_4, .int .i64 a1_5] 27 (0, 0))) ∧ Aside0 (Below w.heap.size w w'))
    case atStart => exact ⟨(0), (by first | rfl | (simp; done) | (simp [*]; done)), H', ⟨Nat.le_refl _⟩, ⟨by (with_reducible repeat (first | apply Kd.R_alloc | apply Kd.R_drewN | apply Kd.R_drew)); exact HO248.out⟩, ⟨by (with_reducible repeat (first | refine blk_drewN ?_ _ | refine blk_drew ?_ | refine blk_alloc ?_ _)); exact BK242.out⟩, ⟨by (with_reducible repeat (first | refine blk_drewN ?_ _ | refine blk_drew ?_ | refine blk_alloc ?_ _)); exact BK243.out⟩, ⟨by repeat (first | (with_reducible first | exact HB.out | apply below_alloc | apply pw_below_drewN | apply below_drew1 | refine below_set ?_ GE242.out | refine below_set ?_ GE243.out) | exact HB.out)⟩⟩
    case round =>
     clear H'
     try clear c1
     try clear p2
     try clear c3
     try clear c5
     try clear c7
     try clear c7b0
     try clear c7b1
     try clear c8
     try clear c8b0
     try clear c8b1
     try clear c8b2
     try clear c12
     try clear hcz13_0
     try clear hcz13_1
     try clear hcz15_0
     try clear hcz15_1
     try clear hcz16_0
     try clear hcz16_1
     try clear hcz16_2
     try clear hcz16_3
     try clear hcz16_4
     try clear hcz16_5
     try clear hcz19_0
     try clear hcz19_1
     try clear hfz13_0
     try clear hfz13_1
     try clear hfz15_0
     try clear hfz15_1
     try clear hfz16_0
     try clear hfz16_1
     try clear hfz16_2
     try clear hfz16_3
     try clear hfz16_4
     try clear hfz16_5
     try clear hfz19_0
     try clear hfz19_1
     obtain ⟨x9_1, rfl, HA, HK1, HO_6, BK242, BK243, HB⟩ := hrel
     cases gk with
     | zero => exact absurd HA.out (by simp [erratalaw20_BoundsPaths.l0])
     | succ k1 =>
      have H := HA.out
      clear HA
      simp only [erratalaw20_BoundsPaths.l0] at H
      by_cases c20 : x9_1 < (t246.length : Int)
      ·
       rw [if_pos c20] at H
       have c20b0 : decide (x9_1 < (t246.length : Int)) = true := decide_eq_true c20
       clear c20
       replace H := Option.bind_eq_some_iff.mp H
       obtain ⟨⟨t251, t252⟩, A210, H⟩ := H
       replace H : (if 0 ≤ x9_1 then (if ((rd_T37 t246 x9_1).f0) = t251 then (if ((rd_T37 t246 x9_1).f1) = t252 then (if ((rd_T37 t246 x9_1).f2) < 1 then (erratalaw20_BoundsPaths.j1 k1 t244 t246 x9_1 true l0_0 l0_1) else (if x9_1 < (l0_1.length : Int) then (erratalaw20_BoundsPaths.j1 k1 t244 t246 x9_1 ((((rd_T37 t246 x9_1).f3) == 0) != (decide (((rd_T44 l0_1 x9_1).f0) ≤ 3))) l0_0 l0_1) else (none))) else (erratalaw20_BoundsPaths.j1 k1 t244 t246 x9_1 true l0_0 l0_1)) else (erratalaw20_BoundsPaths.j1 k1 t244 t246 x9_1 true l0_0 l0_1)) else (none)) = some true := H
       have A21 := Aside0.mk A210
       clear A210
       have HC22 := Aside0.mk H
       clear H
       have hnb23 := NB242_243.out
       have hnc23 := NB243_242.out
       obtain ⟨hcz24_0, hcz24_1, hfz24_0, hfz24_1⟩ := blk2 BK242.out
       go_upto_region 13 with (first | (go_at_call 10; (with_reducible refine (erratalaw20_path.calls k1 _ _ l0_0 _ _ l0_1 x9_1 t251 t252 _ ?side1 ?side2 ?side3 ?side4 A21.out).mono ?_); (case side1 => exact c_belowA HR0_0.out); (case side2 => exact HC0_0.out); (case side3 => exact c_belowA HR0_1.out); (case side4 => exact HC0_1.out); rintro e w25 ⟨rfl, hb⟩; have n0_ := Aside0.mk (Kd.R_below (by (with_reducible repeat (first | apply Kd.R_alloc | apply Kd.R_drewN | apply Kd.R_drew)); exact HO_6.out) hb); have n1_ := Aside0.mk (blk_keepA BK242.out hb); have n2_ := Aside0.mk (blk_keepA BK243.out hb); have n3_ := Aside0.mk (below_stepA hb); clear HO_6; clear BK242; clear BK243; clear HB; have HO_6 := n0_; have BK242 := n1_; have BK243 := n2_; have HB := n3_; clear n0_ n1_ n2_ n3_; (try clear hb); (try clear hb2); (try clear hk); (try clear hi)))
       repeat (go_quiet (first | (go_at_call 10; (with_reducible refine (erratalaw20_path.calls k1 _ _ l0_0 _ _ l0_1 x9_1 t251 t252 _ ?side1 ?side2 ?side3 ?side4 A21.out).mono ?_); (case side1 => exact c_belowA HR0_0.out); (case side2 => exact HC0_0.out); (case side3 => exact c_belowA HR0_1.out); (case side4 => exact HC0_1.out); rintro e w25 ⟨rfl, hb⟩; have n0_ := Aside0.mk (Kd.R_below (by (with_reducible repeat (first | apply Kd.R_alloc | apply Kd.R_drewN | apply Kd.R_drew)); exact HO_6.out) hb); have n1_ := Aside0.mk (blk_keepA BK242.out hb); have n2_ := Aside0.mk (blk_keepA BK243.out hb); have n3_ := Aside0.mk (below_stepA hb); clear HO_6; clear BK242; clear BK243; clear HB; have HO_6 := n0_; have BK242 := n1_; have BK243 := n2_; have HB := n3_; clear n0_ n1_ n2_ n3_; (try clear hb); (try clear hb2); (try clear hk); (try clear hi))); go_upto_region 13 with (first | (go_at_call 10; (with_reducible refine (erratalaw20_path.calls k1 _ _ l0_0 _ _ l0_1 x9_1 t251 t252 _ ?side1 ?side2 ?side3 ?side4 A21.out).mono ?_); (case side1 => exact c_belowA HR0_0.out); (case side2 => exact HC0_0.out); (case side3 => exact c_belowA HR0_1.out); (case side4 => exact HC0_1.out); rintro e w25 ⟨rfl, hb⟩; have n0_ := Aside0.mk (Kd.R_below (by (with_reducible repeat (first | apply Kd.R_alloc | apply Kd.R_drewN | apply Kd.R_drew)); exact HO_6.out) hb); have n1_ := Aside0.mk (blk_keepA BK242.out hb); have n2_ := Aside0.mk (blk_keepA BK243.out hb); have n3_ := Aside0.mk (below_stepA hb); clear HO_6; clear BK242; clear BK243; clear HB; have HO_6 := n0_; have BK242 := n1_; have BK243 := n2_; have HB := n3_; clear n0_ n1_ n2_ n3_; (try clear hb); (try clear hb2); (try clear hk); (try clear hi))))
       (try simp only [Act.put, List.setIfInBounds_toArray, List.set_cons_zero, List.set_cons_succ])
       go_cut [91] (fun v91 wc => ∃ (kq : Nat) (x91_21 : Bool), v91 = .bool x91_21 ∧ Aside0 (erratalaw20_BoundsPaths.j1 kq t244 t246 x9_1 x91_21 l0_0 l0_1 = some true) ∧ Aside0 (kq ≤ k1) ∧ Aside0 (Kd.R k37 37 wc w.heap.size (fun _ => True) (.slice Ao18 t246.length co18) t246) ∧ Aside0 (wc.heap[gb242]? = some (.cells #[(.slice A0_0 l0_0.length c0_0), (.slice A0_1 l0_1.length c0_1)] 25 (0, 0))) ∧ Aside0 (wc.heap[gb243]? = some (.cells #[.int .i64 a1_0, .int .i64 a1_1, .int .i64 a1_2, .int .i64 a1_3, .int .i64 a1_4, .int .i64 a1_5] 27 (0, 0))) ∧ Aside0 (Below w.heap.size w wc))
       case first =>
        have H := HC22.out
        clear HC22
        by_cases c26 : 0 ≤ x9_1
        ·
         rw [if_pos c26] at H
         have c26b0 : decide (0 ≤ x9_1) = true := decide_eq_true c26
         clear c26
         (first | rw [c26b0] | (simp only [i64_w, i32_w]; rw [c26b0]) | skip)
         by_cases c27 : ((rd_T37 t246 x9_1).f0) = t251
         ·
          rw [if_pos c27] at H
          have c27b0 : (((rd_T37 t246 x9_1).f0) == t251) = true := beq_iff_eq.mpr c27
          have c27b1 : (((rd_T37 t246 x9_1).f0) != t251) = false := bne_eq_false_iff_eq.mpr c27
          clear c27
          by_cases c28 : ((rd_T37 t246 x9_1).f1) = t252
          ·
           rw [if_pos c28] at H
           have c28b0 : (((rd_T37 t246 x9_1).f1) == t252) = true := beq_iff_eq.mpr c28
           have c28b1 : (((rd_T37 t246 x9_1).f1) != t252) = false := bne_eq_false_iff_eq.mpr c28
           clear c28
           by_cases c29 : ((rd_T37 t246 x9_1).f2) < 1
           ·
            rw [if_pos c29] at H
            have c29b0 : decide (((rd_T37 t246 x9_1).f2) < 1) = true := decide_eq_true c29
            clear c29
            exact absurd H (by cases k1 <;> simp [erratalaw20_BoundsPaths.j1])
           ·
            rw [if_neg c29] at H
            have c29b0 : decide (((rd_T37 t246 x9_1).f2) < 1) = false := decide_eq_false c29
            clear c29
            by_cases c30 : x9_1 < (l0_1.length : Int)
            ·
             rw [if_pos c30] at H
             have c30b0 : decide (x9_1 < (l0_1.length : Int)) = true := decide_eq_true c30
             clear c30
             have H' := Aside0.mk H
             clear H
             have p253 : 0 ≤ (x9_1 : Int) := of_decide_eq_true (by first | (with_reducible assumption) | assumption)
             have q253 : x9_1 < (t246.length : Int) := of_decide_eq_true (by first | (with_reducible assumption) | assumption)
             obtain ⟨ad253, e253, hx253_0, hx253_1, hx253_2, hx253_3⟩ := at_T37 (Kd.R_reads' HO_6.out).2.2 x9_1 p253 q253
             cases e253
             replace p253 := eq_true p253
             replace q253 := eq_true q253
             have p254 : 0 ≤ (x9_1 : Int) := of_decide_eq_true (by first | (with_reducible assumption) | assumption)
             have q254 : x9_1 < (t246.length : Int) := of_decide_eq_true (by first | (with_reducible assumption) | assumption)
             obtain ⟨ad254, e254, hx254_0, hx254_1, hx254_2, hx254_3⟩ := at_T37 (Kd.R_reads' HO_6.out).2.2 x9_1 p254 q254
             obtain rfl : ad253 = ad254 := (by injection e254)
             replace p254 := eq_true p254
             replace q254 := eq_true q254
             have p255 : 0 ≤ (x9_1 : Int) := of_decide_eq_true (by first | (with_reducible assumption) | assumption)
             have q255 : x9_1 < (t246.length : Int) := of_decide_eq_true (by first | (with_reducible assumption) | assumption)
             obtain ⟨ad255, e255, hx255_0, hx255_1, hx255_2, hx255_3⟩ := at_T37 (Kd.R_reads' HO_6.out).2.2 x9_1 p255 q255
             obtain rfl : ad253 = ad255 := (by injection e255)
             replace p255 := eq_true p255
             replace q255 := eq_true q255
             have p256 : 0 ≤ (x9_1 : Int) := of_decide_eq_true (by first | (with_reducible assumption) | assumption)
             have q256 : x9_1 < (t246.length : Int) := of_decide_eq_true (by first | (with_reducible assumption) | assumption)
             obtain ⟨ad256, e256, hx256_0, hx256_1, hx256_2, hx256_3⟩ := at_T37 (Kd.R_reads' HO_6.out).2.2 x9_1 p256 q256
             obtain rfl : ad253 = ad256 := (by injection e256)
             replace p256 := eq_true p256
             replace q256 := eq_true q256
             have hnb31 := NB242_243.out
             have hnc31 := NB243_242.out
             obtain ⟨hcz32_0, hcz32_1, hfz32_0, hfz32_1⟩ := blk2 BK242.out
             have p257 : 0 ≤ (x9_1 : Int) := of_decide_eq_true (by first | (with_reducible assumption) | assumption)
             have q257 : x9_1 < (l0_1.length : Int) := of_decide_eq_true (by first | (with_reducible assumption) | assumption)
             obtain ⟨ad257, A257_1, c257_1, A257_4, c257_4, A257_8, c257_8, A257_9, c257_9, A257_13, c257_13, A257_14, c257_14, A257_15, c257_15, e257, hx257_0, hx257_1, hx257_2, hx257_3, hx257_4, hx257_5, hx257_6, hx257_7, hx257_8, hx257_9, hx257_10, hx257_11, hx257_12, hx257_13, hx257_14, hx257_15, hl257_1, hi257_1, hl257_4, hi257_4, hl257_8, hi257_8, hl257_9, hi257_9, hl257_13, hi257_13, hl257_14, hi257_14, hl257_15, hi257_15⟩ := at_T44 HR0_1.out x9_1 p257 q257
             cases e257
             replace hx257_0 := (HB.out.cell (World.block_lt_of_cell? w _ hx257_0)).trans hx257_0
             replace hx257_1 := (HB.out.cell (World.block_lt_of_cell? w _ hx257_1)).trans hx257_1
             replace hx257_2 := (HB.out.cell (World.block_lt_of_cell? w _ hx257_2)).trans hx257_2
             replace hx257_3 := (HB.out.cell (World.block_lt_of_cell? w _ hx257_3)).trans hx257_3
             replace hx257_4 := (HB.out.cell (World.block_lt_of_cell? w _ hx257_4)).trans hx257_4
             replace hx257_5 := (HB.out.cell (World.block_lt_of_cell? w _ hx257_5)).trans hx257_5
             replace hx257_6 := (HB.out.cell (World.block_lt_of_cell? w _ hx257_6)).trans hx257_6
             replace hx257_7 := (HB.out.cell (World.block_lt_of_cell? w _ hx257_7)).trans hx257_7
             replace hx257_8 := (HB.out.cell (World.block_lt_of_cell? w _ hx257_8)).trans hx257_8
             replace hx257_9 := (HB.out.cell (World.block_lt_of_cell? w _ hx257_9)).trans hx257_9
             replace hx257_10 := (HB.out.cell (World.block_lt_of_cell? w _ hx257_10)).trans hx257_10
             replace hx257_11 := (HB.out.cell (World.block_lt_of_cell? w _ hx257_11)).trans hx257_11
             replace hx257_12 := (HB.out.cell (World.block_lt_of_cell? w _ hx257_12)).trans hx257_12
             replace hx257_13 := (HB.out.cell (World.block_lt_of_cell? w _ hx257_13)).trans hx257_13
             replace hx257_14 := (HB.out.cell (World.block_lt_of_cell? w _ hx257_14)).trans hx257_14
             replace hx257_15 := (HB.out.cell (World.block_lt_of_cell? w _ hx257_15)).trans hx257_15
             have HR257_1 := Aside0.mk hi257_1
             have HC257_1 := Aside0.mk hl257_1
             clear hi257_1 hl257_1
             have HR257_4 := Aside0.mk hi257_4
             have HC257_4 := Aside0.mk hl257_4
             clear hi257_4 hl257_4
             have HR257_8 := Aside0.mk hi257_8
             have HC257_8 := Aside0.mk hl257_8
             clear hi257_8 hl257_8
             have HR257_9 := Aside0.mk hi257_9
             have HC257_9 := Aside0.mk hl257_9
             clear hi257_9 hl257_9
             have HR257_13 := Aside0.mk hi257_13
             have HC257_13 := Aside0.mk hl257_13
             clear hi257_13 hl257_13
             have HR257_14 := Aside0.mk hi257_14
             have HC257_14 := Aside0.mk hl257_14
             clear hi257_14 hl257_14
             have HR257_15 := Aside0.mk hi257_15
             have HC257_15 := Aside0.mk hl257_15
             clear hi257_15 hl257_15
             replace p257 := eq_true p257
             replace q257 := eq_true q257
             go_wp2
             repeat (go_quiet (fail); try go_wp2)
             go_meet
             case rel => exact ⟨_, (((((rd_T37 t246 x9_1).f3) == 0) != (decide (((rd_T44 l0_1 x9_1).f0) ≤ 3)))), (by first | rfl | (simp; done) | (simp [*]; done)), H', ⟨by have := HK1.out; first | omega | exact Nat.le_refl _⟩, ⟨by (with_reducible repeat (first | apply Kd.R_alloc | apply Kd.R_drewN | apply Kd.R_drew)); exact HO_6.out⟩, ⟨by (with_reducible repeat (first | refine blk_drewN ?_ _ | refine blk_drew ?_ | refine blk_alloc ?_ _)); exact BK242.out⟩, ⟨by (with_reducible repeat (first | refine blk_drewN ?_ _ | refine blk_drew ?_ | refine blk_alloc ?_ _)); exact BK243.out⟩, ⟨by repeat (first | (with_reducible first | exact HB.out | apply below_alloc | apply pw_below_drewN | apply below_drew1 | refine below_set ?_ GE242.out | refine below_set ?_ GE243.out) | exact HB.out)⟩⟩
            ·
             rw [if_neg c30] at H
             exact absurd H (by simp)
          ·
           rw [if_neg c28] at H
           have c28b0 : (((rd_T37 t246 x9_1).f1) == t252) = false := beq_eq_false_iff_ne.mpr c28
           have c28b1 : (((rd_T37 t246 x9_1).f1) != t252) = true := bne_iff_ne.mpr c28
           exact absurd H (by cases k1 <;> simp [erratalaw20_BoundsPaths.j1])
         ·
          rw [if_neg c27] at H
          have c27b0 : (((rd_T37 t246 x9_1).f0) == t251) = false := beq_eq_false_iff_ne.mpr c27
          have c27b1 : (((rd_T37 t246 x9_1).f0) != t251) = true := bne_iff_ne.mpr c27
          exact absurd H (by cases k1 <;> simp [erratalaw20_BoundsPaths.j1])
        ·
         rw [if_neg c26] at H
         exact absurd H (by simp)
       case rest =>
        clear HC22
        try clear c1
        try clear c2
        try clear p2
        try clear q2
        try clear hx2
        try clear c3
        try clear c5
        try clear c7
        try clear c7b0
        try clear c7b1
        try clear c8
        try clear c8b0
        try clear c8b1
        try clear c8b2
        try clear c12
        try clear c20
        try clear c20b0
        try clear c23
        try clear c25
        try clear p25
        try clear q25
        try clear hx25
        try clear c26
        try clear c26b0
        try clear c27
        try clear c27b0
        try clear c27b1
        try clear c28
        try clear c28b0
        try clear c28b1
        try clear c29
        try clear c29b0
        try clear c30
        try clear c30b0
        try clear c31
        try clear hcz13_0
        try clear hcz13_1
        try clear hcz15_0
        try clear hcz15_1
        try clear hcz16_0
        try clear hcz16_1
        try clear hcz16_2
        try clear hcz16_3
        try clear hcz16_4
        try clear hcz16_5
        try clear hcz19_0
        try clear hcz19_1
        try clear hcz24_0
        try clear hcz24_1
        try clear hcz32_0
        try clear hcz32_1
        try clear hfz13_0
        try clear hfz13_1
        try clear hfz15_0
        try clear hfz15_1
        try clear hfz16_0
        try clear hfz16_1
        try clear hfz16_2
        try clear hfz16_3
        try clear hfz16_4
        try clear hfz16_5
        try clear hfz19_0
        try clear hfz19_1
        try clear hfz24_0
        try clear hfz24_1
        try clear hfz32_0
        try clear hfz32_1
        try clear hx253_0
        try clear hx253_1
        try clear hx253_2
        try clear hx253_3
        try clear hx254_0
        try clear hx254_1
        try clear hx254_2
        try clear hx254_3
        try clear hx255_0
        try clear hx255_1
        try clear hx255_2
        try clear hx255_3
        try clear hx256_0
        try clear hx256_1
        try clear hx256_2
        try clear hx256_3
        try clear hx257_0
        try clear hx257_1
        try clear hx257_10
        try clear hx257_11
        try clear hx257_12
        try clear hx257_13
        try clear hx257_14
        try clear hx257_15
        try clear hx257_2
        try clear hx257_3
        try clear hx257_4
        try clear hx257_5
        try clear hx257_6
        try clear hx257_7
        try clear hx257_8
        try clear hx257_9
        try clear p2
        try clear p253
        try clear p254
        try clear p255
        try clear p256
        try clear p257
        try clear q253
        try clear q254
        try clear q255
        try clear q256
        try clear q257
        obtain ⟨kq, x91_21, rfl, HA, HJ21, HO_6, BK242, BK243, HB⟩ := hcut
        cases kq with
        | zero => exact absurd HA.out (by simp [erratalaw20_BoundsPaths.j1])
        | succ kj21 =>
         have H := HA.out
         clear HA
         simp only [erratalaw20_BoundsPaths.j1] at H
         by_cases c33 : x91_21 = true
         ·
          subst c33
          have H1 : (some false) = some true := by rw [if_pos rfl] at H; exact H
          clear H
          have H := H1
          clear H1
          cases H
         ·
          replace c33 := Bool.eq_false_iff.mpr c33
          subst c33
          have H1 : (erratalaw20_BoundsPaths.l1 kj21 t244 t246 x9_1 0 l0_0 l0_1) = some true := by rw [if_neg (show ¬ (false = true) by decide)] at H; exact H
          clear H
          have H := H1
          clear H1
          have H' := Aside0.mk H
          clear H
          go_wp2
          repeat (go_quiet (fail); try go_wp2)
          go_loopg [12] kj21 (fun kq v12 w' => ∃ (x12_3 : Int), v12 = .int .i64 x12_3 ∧ Aside0 (erratalaw20_BoundsPaths.l1 kq t244 t246 x9_1 x12_3 l0_0 l0_1 = some true) ∧ Aside0 (kq ≤ kj21) ∧ Aside0 (Kd.R k37 37 w' w.heap.size (fun _ => True) (.slice Ao18 t246.length co18) t246) ∧ Aside0 (w'.heap[gb242]? = some (.cells #[(.slice A0_0 l0_0.length c0_0), (.slice A0_1 l0_1.length c0_1)] 25 (0, 0))) ∧ Aside0 (w'.heap[gb243]? = some (.cells #[.int .i64 a1_0, .int .i64 a1_1, .int .i64 a1_2, .int .i64 a1_3, .int .i64 a1_4, .int .i64 a1_5] 27 (0, 0))) ∧ Aside0 (Below w.heap.size w w'))
          case atStart => exact ⟨(0), (by first | rfl | (simp; done) | (simp [*]; done)), H', ⟨Nat.le_refl _⟩, ⟨by (with_reducible repeat (first | apply Kd.R_alloc | apply Kd.R_drewN | apply Kd.R_drew)); exact HO_6.out⟩, ⟨by (with_reducible repeat (first | refine blk_drewN ?_ _ | refine blk_drew ?_ | refine blk_alloc ?_ _)); exact BK242.out⟩, ⟨by (with_reducible repeat (first | refine blk_drewN ?_ _ | refine blk_drew ?_ | refine blk_alloc ?_ _)); exact BK243.out⟩, ⟨by repeat (first | (with_reducible first | exact HB.out | apply below_alloc | apply pw_below_drewN | apply below_drew1 | refine below_set ?_ GE242.out | refine below_set ?_ GE243.out) | exact HB.out)⟩⟩
          case round =>
           clear H'
           try clear c1
           try clear c2
           try clear p2
           try clear q2
           try clear hx2
           try clear c3
           try clear c5
           try clear c7
           try clear c7b0
           try clear c7b1
           try clear c8
           try clear c8b0
           try clear c8b1
           try clear c8b2
           try clear c12
           try clear c20
           try clear c20b0
           try clear c23
           try clear c25
           try clear p25
           try clear q25
           try clear hx25
           try clear c26
           try clear c26b0
           try clear c27
           try clear c27b0
           try clear c27b1
           try clear c28
           try clear c28b0
           try clear c28b1
           try clear c29
           try clear c29b0
           try clear c30
           try clear c30b0
           try clear c31
           try clear c33
           try clear hcz13_0
           try clear hcz13_1
           try clear hcz15_0
           try clear hcz15_1
           try clear hcz16_0
           try clear hcz16_1
           try clear hcz16_2
           try clear hcz16_3
           try clear hcz16_4
           try clear hcz16_5
           try clear hcz19_0
           try clear hcz19_1
           try clear hcz24_0
           try clear hcz24_1
           try clear hcz32_0
           try clear hcz32_1
           try clear hfz13_0
           try clear hfz13_1
           try clear hfz15_0
           try clear hfz15_1
           try clear hfz16_0
           try clear hfz16_1
           try clear hfz16_2
           try clear hfz16_3
           try clear hfz16_4
           try clear hfz16_5
           try clear hfz19_0
           try clear hfz19_1
           try clear hfz24_0
           try clear hfz24_1
           try clear hfz32_0
           try clear hfz32_1
           try clear hx253_0
           try clear hx253_1
           try clear hx253_2
           try clear hx253_3
           try clear hx254_0
           try clear hx254_1
           try clear hx254_2
           try clear hx254_3
           try clear hx255_0
           try clear hx255_1
           try clear hx255_2
           try clear hx255_3
           try clear hx256_0
           try clear hx256_1
           try clear hx256_2
           try clear hx256_3
           try clear hx257_0
           try clear hx257_1
           try clear hx257_10
           try clear hx257_11
           try clear hx257_12
           try clear hx257_13
           try clear hx257_14
           try clear hx257_15
           try clear hx257_2
           try clear hx257_3
           try clear hx257_4
           try clear hx257_5
           try clear hx257_6
           try clear hx257_7
           try clear hx257_8
           try clear hx257_9
           try clear p2
           try clear p25
           try clear p253
           try clear p254
           try clear p255
           try clear p256
           try clear p257
           try clear q2
           try clear q25
           try clear q253
           try clear q254
           try clear q255
           try clear q256
           try clear q257
           obtain ⟨x12_3, rfl, HA, HK3, HO_6, BK242, BK243, HB⟩ := hrel
           cases gk with
           | zero => exact absurd HA.out (by simp [erratalaw20_BoundsPaths.l1])
           | succ k3 =>
            have H := HA.out
            clear HA
            simp only [erratalaw20_BoundsPaths.l1] at H
            by_cases c34 : 0 ≤ x9_1
            ·
             rw [if_pos c34] at H
             have c34b0 : decide (0 ≤ x9_1) = true := decide_eq_true c34
             clear c34
             by_cases c35 : x9_1 < (l0_1.length : Int)
             ·
              rw [if_pos c35] at H
              have c35b0 : decide (x9_1 < (l0_1.length : Int)) = true := decide_eq_true c35
              clear c35
              by_cases c36 : x12_3 < (((rd_T44 l0_1 x9_1).f1).length : Int)
              ·
               rw [if_pos c36] at H
               have c36b0 : decide (x12_3 < (((rd_T44 l0_1 x9_1).f1).length : Int)) = true := decide_eq_true c36
               clear c36
               by_cases c37 : 0 ≤ x12_3
               ·
                rw [if_pos c37] at H
                have c37b0 : decide (0 ≤ x12_3) = true := decide_eq_true c37
                clear c37
                by_cases c38 : 0 ≤ (rd ((rd_T44 l0_1 x9_1).f1) x12_3)
                ·
                 rw [if_pos c38] at H
                 have c38b0 : decide (0 ≤ (rd ((rd_T44 l0_1 x9_1).f1) x12_3)) = true := decide_eq_true c38
                 clear c38
                 by_cases c39 : (rd ((rd_T44 l0_1 x9_1).f1) x12_3) < (t246.length : Int)
                 ·
                  rw [if_pos c39] at H
                  have c39b0 : decide ((rd ((rd_T44 l0_1 x9_1).f1) x12_3) < (t246.length : Int)) = true := decide_eq_true c39
                  clear c39
                  have HC40 := Aside0.mk H
                  clear H
                  have hnb41 := NB242_243.out
                  have hnc41 := NB243_242.out
                  obtain ⟨hcz42_0, hcz42_1, hfz42_0, hfz42_1⟩ := blk2 BK242.out
                  have p258 : 0 ≤ (x9_1 : Int) := of_decide_eq_true (by first | (with_reducible assumption) | assumption)
                  have q258 : x9_1 < (l0_1.length : Int) := of_decide_eq_true (by first | (with_reducible assumption) | assumption)
                  obtain ⟨ad258, A258_1, c258_1, A258_4, c258_4, A258_8, c258_8, A258_9, c258_9, A258_13, c258_13, A258_14, c258_14, A258_15, c258_15, e258, hx258_0, hx258_1, hx258_2, hx258_3, hx258_4, hx258_5, hx258_6, hx258_7, hx258_8, hx258_9, hx258_10, hx258_11, hx258_12, hx258_13, hx258_14, hx258_15, hl258_1, hi258_1, hl258_4, hi258_4, hl258_8, hi258_8, hl258_9, hi258_9, hl258_13, hi258_13, hl258_14, hi258_14, hl258_15, hi258_15⟩ := at_T44 HR0_1.out x9_1 p258 q258
                  cases e258
                  replace hx258_0 := (HB.out.cell (World.block_lt_of_cell? w _ hx258_0)).trans hx258_0
                  replace hx258_1 := (HB.out.cell (World.block_lt_of_cell? w _ hx258_1)).trans hx258_1
                  replace hx258_2 := (HB.out.cell (World.block_lt_of_cell? w _ hx258_2)).trans hx258_2
                  replace hx258_3 := (HB.out.cell (World.block_lt_of_cell? w _ hx258_3)).trans hx258_3
                  replace hx258_4 := (HB.out.cell (World.block_lt_of_cell? w _ hx258_4)).trans hx258_4
                  replace hx258_5 := (HB.out.cell (World.block_lt_of_cell? w _ hx258_5)).trans hx258_5
                  replace hx258_6 := (HB.out.cell (World.block_lt_of_cell? w _ hx258_6)).trans hx258_6
                  replace hx258_7 := (HB.out.cell (World.block_lt_of_cell? w _ hx258_7)).trans hx258_7
                  replace hx258_8 := (HB.out.cell (World.block_lt_of_cell? w _ hx258_8)).trans hx258_8
                  replace hx258_9 := (HB.out.cell (World.block_lt_of_cell? w _ hx258_9)).trans hx258_9
                  replace hx258_10 := (HB.out.cell (World.block_lt_of_cell? w _ hx258_10)).trans hx258_10
                  replace hx258_11 := (HB.out.cell (World.block_lt_of_cell? w _ hx258_11)).trans hx258_11
                  replace hx258_12 := (HB.out.cell (World.block_lt_of_cell? w _ hx258_12)).trans hx258_12
                  replace hx258_13 := (HB.out.cell (World.block_lt_of_cell? w _ hx258_13)).trans hx258_13
                  replace hx258_14 := (HB.out.cell (World.block_lt_of_cell? w _ hx258_14)).trans hx258_14
                  replace hx258_15 := (HB.out.cell (World.block_lt_of_cell? w _ hx258_15)).trans hx258_15
                  have HR258_1 := Aside0.mk hi258_1
                  have HC258_1 := Aside0.mk hl258_1
                  clear hi258_1 hl258_1
                  have HR258_4 := Aside0.mk hi258_4
                  have HC258_4 := Aside0.mk hl258_4
                  clear hi258_4 hl258_4
                  have HR258_8 := Aside0.mk hi258_8
                  have HC258_8 := Aside0.mk hl258_8
                  clear hi258_8 hl258_8
                  have HR258_9 := Aside0.mk hi258_9
                  have HC258_9 := Aside0.mk hl258_9
                  clear hi258_9 hl258_9
                  have HR258_13 := Aside0.mk hi258_13
                  have HC258_13 := Aside0.mk hl258_13
                  clear hi258_13 hl258_13
                  have HR258_14 := Aside0.mk hi258_14
                  have HC258_14 := Aside0.mk hl258_14
                  clear hi258_14 hl258_14
                  have HR258_15 := Aside0.mk hi258_15
                  have HC258_15 := Aside0.mk hl258_15
                  clear hi258_15 hl258_15
                  replace p258 := eq_true p258
                  replace q258 := eq_true q258
                  have p259 : 0 ≤ (x9_1 : Int) := of_decide_eq_true (by first | (with_reducible assumption) | assumption)
                  have q259 : x9_1 < (l0_1.length : Int) := of_decide_eq_true (by first | (with_reducible assumption) | assumption)
                  obtain ⟨ad259, A259_1, c259_1, A259_4, c259_4, A259_8, c259_8, A259_9, c259_9, A259_13, c259_13, A259_14, c259_14, A259_15, c259_15, e259, hx259_0, hx259_1, hx259_2, hx259_3, hx259_4, hx259_5, hx259_6, hx259_7, hx259_8, hx259_9, hx259_10, hx259_11, hx259_12, hx259_13, hx259_14, hx259_15, hl259_1, hi259_1, hl259_4, hi259_4, hl259_8, hi259_8, hl259_9, hi259_9, hl259_13, hi259_13, hl259_14, hi259_14, hl259_15, hi259_15⟩ := at_T44 HR0_1.out x9_1 p259 q259
                  obtain rfl : ad258 = ad259 := (by injection e259)
                  replace hx259_0 := (HB.out.cell (World.block_lt_of_cell? w _ hx259_0)).trans hx259_0
                  replace hx259_1 := (HB.out.cell (World.block_lt_of_cell? w _ hx259_1)).trans hx259_1
                  replace hx259_2 := (HB.out.cell (World.block_lt_of_cell? w _ hx259_2)).trans hx259_2
                  replace hx259_3 := (HB.out.cell (World.block_lt_of_cell? w _ hx259_3)).trans hx259_3
                  replace hx259_4 := (HB.out.cell (World.block_lt_of_cell? w _ hx259_4)).trans hx259_4
                  replace hx259_5 := (HB.out.cell (World.block_lt_of_cell? w _ hx259_5)).trans hx259_5
                  replace hx259_6 := (HB.out.cell (World.block_lt_of_cell? w _ hx259_6)).trans hx259_6
                  replace hx259_7 := (HB.out.cell (World.block_lt_of_cell? w _ hx259_7)).trans hx259_7
                  replace hx259_8 := (HB.out.cell (World.block_lt_of_cell? w _ hx259_8)).trans hx259_8
                  replace hx259_9 := (HB.out.cell (World.block_lt_of_cell? w _ hx259_9)).trans hx259_9
                  replace hx259_10 := (HB.out.cell (World.block_lt_of_cell? w _ hx259_10)).trans hx259_10
                  replace hx259_11 := (HB.out.cell (World.block_lt_of_cell? w _ hx259_11)).trans hx259_11
                  replace hx259_12 := (HB.out.cell (World.block_lt_of_cell? w _ hx259_12)).trans hx259_12
                  replace hx259_13 := (HB.out.cell (World.block_lt_of_cell? w _ hx259_13)).trans hx259_13
                  replace hx259_14 := (HB.out.cell (World.block_lt_of_cell? w _ hx259_14)).trans hx259_14
                  replace hx259_15 := (HB.out.cell (World.block_lt_of_cell? w _ hx259_15)).trans hx259_15
                  have HR259_1 := Aside0.mk hi259_1
                  have HC259_1 := Aside0.mk hl259_1
                  clear hi259_1 hl259_1
                  have HR259_4 := Aside0.mk hi259_4
                  have HC259_4 := Aside0.mk hl259_4
                  clear hi259_4 hl259_4
                  have HR259_8 := Aside0.mk hi259_8
                  have HC259_8 := Aside0.mk hl259_8
                  clear hi259_8 hl259_8
                  have HR259_9 := Aside0.mk hi259_9
                  have HC259_9 := Aside0.mk hl259_9
                  clear hi259_9 hl259_9
                  have HR259_13 := Aside0.mk hi259_13
                  have HC259_13 := Aside0.mk hl259_13
                  clear hi259_13 hl259_13
                  have HR259_14 := Aside0.mk hi259_14
                  have HC259_14 := Aside0.mk hl259_14
                  clear hi259_14 hl259_14
                  have HR259_15 := Aside0.mk hi259_15
                  have HC259_15 := Aside0.mk hl259_15
                  clear hi259_15 hl259_15
                  replace p259 := eq_true p259
                  replace q259 := eq_true q259
                  have ea_ := Option.some.inj (hx258_1.symm.trans hx259_1)
                  injection ea_ with ea_ en_ ec_
                  subst ea_
                  subst ec_
                  clear en_
                  have ea_ := Option.some.inj (hx258_4.symm.trans hx259_4)
                  injection ea_ with ea_ en_ ec_
                  subst ea_
                  subst ec_
                  clear en_
                  have ea_ := Option.some.inj (hx258_8.symm.trans hx259_8)
                  injection ea_ with ea_ en_ ec_
                  subst ea_
                  subst ec_
                  clear en_
                  have ea_ := Option.some.inj (hx258_9.symm.trans hx259_9)
                  injection ea_ with ea_ en_ ec_
                  subst ea_
                  subst ec_
                  clear en_
                  have ea_ := Option.some.inj (hx258_13.symm.trans hx259_13)
                  injection ea_ with ea_ en_ ec_
                  subst ea_
                  subst ec_
                  clear en_
                  have ea_ := Option.some.inj (hx258_14.symm.trans hx259_14)
                  injection ea_ with ea_ en_ ec_
                  subst ea_
                  subst ec_
                  clear en_
                  have ea_ := Option.some.inj (hx258_15.symm.trans hx259_15)
                  injection ea_ with ea_ en_ ec_
                  subst ea_
                  subst ec_
                  clear en_
                  have p260 : 0 ≤ (x12_3 : Int) := of_decide_eq_true (by first | (with_reducible assumption) | assumption)
                  have q260 : x12_3 < (((rd_T44 l0_1 x9_1).f1).length : Int) := of_decide_eq_true (by first | (with_reducible assumption) | assumption)
                  obtain ⟨ad260, e260, hx260_0⟩ := Kd.at_int HR259_1.out x12_3 p260 q260
                  cases e260
                  replace hx260_0 := (HB.out.cell (World.block_lt_of_cell? w _ hx260_0)).trans hx260_0
                  replace p260 := eq_true p260
                  replace q260 := eq_true q260
                  have p261 : 0 ≤ ((rd ((rd_T44 l0_1 x9_1).f1) x12_3) : Int) := of_decide_eq_true (by first | (with_reducible assumption) | assumption)
                  have q261 : (rd ((rd_T44 l0_1 x9_1).f1) x12_3) < (t246.length : Int) := of_decide_eq_true (by first | (with_reducible assumption) | assumption)
                  obtain ⟨ad261, e261, hx261_0, hx261_1, hx261_2, hx261_3⟩ := at_T37 (Kd.R_reads' HO_6.out).2.2 (rd ((rd_T44 l0_1 x9_1).f1) x12_3) p261 q261
                  cases e261
                  replace p261 := eq_true p261
                  replace q261 := eq_true q261
                  go_upto_region 19 with (first | ((with_reducible refine gate_dst (N := 13) rfl ?_); (try (refine gate_guard (by rfl) ?_; dsimp only)); refine box_event ?hg (N := 13) ?hd (cs := #[.int .i64 0, .int .i64 0, .int .i64 0, .int .i64 0]) (t := 37) ?hr ?_; (case hd => rfl); (case hg => rfl); (case hr => first | (go_simp; done) | (go_simp; rfl)); intro gb262 hg w43 hbox hb; have n0_ := Aside0.mk (Kd.R_below (Kd.R_elderB (by (with_reducible repeat (first | apply Kd.R_alloc | apply Kd.R_drewN | apply Kd.R_drew)); exact HO_6.out) gb262 (Nat.le_of_eq hg.symm)) hb); have n1_ := Aside0.mk (blk_keepA BK242.out hb); have n2_ := Aside0.mk (blk_keepA BK243.out hb); have n3_ := Aside0.mk (below_stepA hb); have n4_ := Aside0.mk (hbox); have n5_ := Aside0.mk ((by rw [hg]; exact below_sizeA : w.heap.size ≤ gb262)); have n6_ := Aside0.mk ((by rw [hg]; exact below_sizeA : w.heap.size ≤ gb262)); have n7_ := Aside0.mk ((by rw [hg]; exact Nat.ne_of_lt (blk_ltKA BK242.out) : gb242 ≠ gb262)); have n8_ := Aside0.mk ((by rw [hg]; exact Nat.ne_of_gt (blk_ltKA BK242.out) : gb262 ≠ gb242)); have n9_ := Aside0.mk ((by rw [hg]; exact Nat.ne_of_lt (blk_ltKA BK243.out) : gb243 ≠ gb262)); have n10_ := Aside0.mk ((by rw [hg]; exact Nat.ne_of_gt (blk_ltKA BK243.out) : gb262 ≠ gb243)); clear HO_6; clear BK242; clear BK243; clear HB; have HO_6 := n0_; have BK242 := n1_; have BK243 := n2_; have HB := n3_; have BK262 := n4_; have GW262 := n5_; have GE262 := n6_; have NB242_262 := n7_; have NB262_242 := n8_; have NB243_262 := n9_; have NB262_243 := n10_; clear n0_ n1_ n2_ n3_ n4_ n5_ n6_ n7_ n8_ n9_ n10_; clear hb hbox hg; have hnb44 := NB262_242.out; have hnc44 := NB242_262.out; have hnb45 := NB262_243.out; have hnc45 := NB243_262.out; obtain ⟨hcz46_0, hcz46_1, hcz46_2, hcz46_3, hfz46_0, hfz46_1, hfz46_2, hfz46_3⟩ := blk4 BK262.out))
                  repeat (go_quiet (first | ((with_reducible refine gate_dst (N := 13) rfl ?_); (try (refine gate_guard (by rfl) ?_; dsimp only)); refine box_event ?hg (N := 13) ?hd (cs := #[.int .i64 0, .int .i64 0, .int .i64 0, .int .i64 0]) (t := 37) ?hr ?_; (case hd => rfl); (case hg => rfl); (case hr => first | (go_simp; done) | (go_simp; rfl)); intro gb262 hg w43 hbox hb; have n0_ := Aside0.mk (Kd.R_below (Kd.R_elderB (by (with_reducible repeat (first | apply Kd.R_alloc | apply Kd.R_drewN | apply Kd.R_drew)); exact HO_6.out) gb262 (Nat.le_of_eq hg.symm)) hb); have n1_ := Aside0.mk (blk_keepA BK242.out hb); have n2_ := Aside0.mk (blk_keepA BK243.out hb); have n3_ := Aside0.mk (below_stepA hb); have n4_ := Aside0.mk (hbox); have n5_ := Aside0.mk ((by rw [hg]; exact below_sizeA : w.heap.size ≤ gb262)); have n6_ := Aside0.mk ((by rw [hg]; exact below_sizeA : w.heap.size ≤ gb262)); have n7_ := Aside0.mk ((by rw [hg]; exact Nat.ne_of_lt (blk_ltKA BK242.out) : gb242 ≠ gb262)); have n8_ := Aside0.mk ((by rw [hg]; exact Nat.ne_of_gt (blk_ltKA BK242.out) : gb262 ≠ gb242)); have n9_ := Aside0.mk ((by rw [hg]; exact Nat.ne_of_lt (blk_ltKA BK243.out) : gb243 ≠ gb262)); have n10_ := Aside0.mk ((by rw [hg]; exact Nat.ne_of_gt (blk_ltKA BK243.out) : gb262 ≠ gb243)); clear HO_6; clear BK242; clear BK243; clear HB; have HO_6 := n0_; have BK242 := n1_; have BK243 := n2_; have HB := n3_; have BK262 := n4_; have GW262 := n5_; have GE262 := n6_; have NB242_262 := n7_; have NB262_242 := n8_; have NB243_262 := n9_; have NB262_243 := n10_; clear n0_ n1_ n2_ n3_ n4_ n5_ n6_ n7_ n8_ n9_ n10_; clear hb hbox hg; have hnb44 := NB262_242.out; have hnc44 := NB242_262.out; have hnb45 := NB262_243.out; have hnc45 := NB243_262.out; obtain ⟨hcz46_0, hcz46_1, hcz46_2, hcz46_3, hfz46_0, hfz46_1, hfz46_2, hfz46_3⟩ := blk4 BK262.out)); go_upto_region 19 with (first | ((with_reducible refine gate_dst (N := 13) rfl ?_); (try (refine gate_guard (by rfl) ?_; dsimp only)); refine box_event ?hg (N := 13) ?hd (cs := #[.int .i64 0, .int .i64 0, .int .i64 0, .int .i64 0]) (t := 37) ?hr ?_; (case hd => rfl); (case hg => rfl); (case hr => first | (go_simp; done) | (go_simp; rfl)); intro gb262 hg w43 hbox hb; have n0_ := Aside0.mk (Kd.R_below (Kd.R_elderB (by (with_reducible repeat (first | apply Kd.R_alloc | apply Kd.R_drewN | apply Kd.R_drew)); exact HO_6.out) gb262 (Nat.le_of_eq hg.symm)) hb); have n1_ := Aside0.mk (blk_keepA BK242.out hb); have n2_ := Aside0.mk (blk_keepA BK243.out hb); have n3_ := Aside0.mk (below_stepA hb); have n4_ := Aside0.mk (hbox); have n5_ := Aside0.mk ((by rw [hg]; exact below_sizeA : w.heap.size ≤ gb262)); have n6_ := Aside0.mk ((by rw [hg]; exact below_sizeA : w.heap.size ≤ gb262)); have n7_ := Aside0.mk ((by rw [hg]; exact Nat.ne_of_lt (blk_ltKA BK242.out) : gb242 ≠ gb262)); have n8_ := Aside0.mk ((by rw [hg]; exact Nat.ne_of_gt (blk_ltKA BK242.out) : gb262 ≠ gb242)); have n9_ := Aside0.mk ((by rw [hg]; exact Nat.ne_of_lt (blk_ltKA BK243.out) : gb243 ≠ gb262)); have n10_ := Aside0.mk ((by rw [hg]; exact Nat.ne_of_gt (blk_ltKA BK243.out) : gb262 ≠ gb243)); clear HO_6; clear BK242; clear BK243; clear HB; have HO_6 := n0_; have BK242 := n1_; have BK243 := n2_; have HB := n3_; have BK262 := n4_; have GW262 := n5_; have GE262 := n6_; have NB242_262 := n7_; have NB262_242 := n8_; have NB243_262 := n9_; have NB262_243 := n10_; clear n0_ n1_ n2_ n3_ n4_ n5_ n6_ n7_ n8_ n9_ n10_; clear hb hbox hg; have hnb44 := NB262_242.out; have hnc44 := NB242_262.out; have hnb45 := NB262_243.out; have hnc45 := NB243_262.out; obtain ⟨hcz46_0, hcz46_1, hcz46_2, hcz46_3, hfz46_0, hfz46_1, hfz46_2, hfz46_3⟩ := blk4 BK262.out)))
                  (try simp only [Act.put, List.setIfInBounds_toArray, List.set_cons_zero, List.set_cons_succ])
                  go_cut [155] (fun v155 wc => ∃ (kq : Nat) (x155_39 : Bool), v155 = .bool x155_39 ∧ Aside0 (erratalaw20_BoundsPaths.j3 kq t244 t246 x9_1 x12_3 x155_39 l0_0 l0_1 = some true) ∧ Aside0 (kq ≤ k3) ∧ Aside0 (Kd.R k37 37 wc w.heap.size (fun k_ => k_ ≠ gb262) (.slice (some ad261) t246.length co18) t246) ∧ Aside0 (wc.heap[gb242]? = some (.cells #[(.slice A0_0 l0_0.length c0_0), (.slice (some ad258) l0_1.length c0_1)] 25 (0, 0))) ∧ Aside0 (wc.heap[gb243]? = some (.cells #[.int .i64 a1_0, .int .i64 a1_1, .int .i64 a1_2, .int .i64 a1_3, .int .i64 a1_4, .int .i64 a1_5] 27 (0, 0))) ∧ Aside0 (wc.heap[gb262]? = some (.cells #[.int .i64 ((rd_T37 t246 (rd ((rd_T44 l0_1 x9_1).f1) x12_3)).f0), .int .i64 ((rd_T37 t246 (rd ((rd_T44 l0_1 x9_1).f1) x12_3)).f1), .int .i64 ((rd_T37 t246 (rd ((rd_T44 l0_1 x9_1).f1) x12_3)).f2), .int .i64 ((rd_T37 t246 (rd ((rd_T44 l0_1 x9_1).f1) x12_3)).f3)] 37 (0, 0))) ∧ Aside0 (Below w.heap.size w wc))
                  case first =>
                   have H := HC40.out
                   clear HC40
                   by_cases c47 : x9_1 < (t246.length : Int)
                   ·
                    rw [if_pos c47] at H
                    have c47b0 : decide (x9_1 < (t246.length : Int)) = true := decide_eq_true c47
                    clear c47
                    (first | rw [c47b0] | (simp only [i64_w, i32_w]; rw [c47b0]) | skip)
                    by_cases c48 : ((rd_T37 t246 x9_1).f0) < ((rd_T37 t246 (rd ((rd_T44 l0_1 x9_1).f1) x12_3)).f0)
                    ·
                     rw [if_pos c48] at H
                     have c48b0 : decide (((rd_T37 t246 x9_1).f0) < ((rd_T37 t246 (rd ((rd_T44 l0_1 x9_1).f1) x12_3)).f0)) = true := decide_eq_true c48
                     clear c48
                     exact absurd H (by cases k3 <;> simp [erratalaw20_BoundsPaths.j3])
                    ·
                     rw [if_neg c48] at H
                     have c48b0 : decide (((rd_T37 t246 x9_1).f0) < ((rd_T37 t246 (rd ((rd_T44 l0_1 x9_1).f1) x12_3)).f0)) = false := decide_eq_false c48
                     clear c48
                     by_cases c49 : ((rd_T37 t246 x9_1).f1) < ((rd_T37 t246 (rd ((rd_T44 l0_1 x9_1).f1) x12_3)).f1)
                     ·
                      rw [if_pos c49] at H
                      have c49b0 : decide (((rd_T37 t246 x9_1).f1) < ((rd_T37 t246 (rd ((rd_T44 l0_1 x9_1).f1) x12_3)).f1)) = true := decide_eq_true c49
                      clear c49
                      exact absurd H (by cases k3 <;> simp [erratalaw20_BoundsPaths.j3])
                     ·
                      rw [if_neg c49] at H
                      have c49b0 : decide (((rd_T37 t246 x9_1).f1) < ((rd_T37 t246 (rd ((rd_T44 l0_1 x9_1).f1) x12_3)).f1)) = false := decide_eq_false c49
                      clear c49
                      by_cases c50 : ((rd_T37 t246 x9_1).f2) < ((rd_T37 t246 (rd ((rd_T44 l0_1 x9_1).f1) x12_3)).f2)
                      ·
                       rw [if_pos c50] at H
                       have c50b0 : decide (((rd_T37 t246 x9_1).f2) < ((rd_T37 t246 (rd ((rd_T44 l0_1 x9_1).f1) x12_3)).f2)) = true := decide_eq_true c50
                       clear c50
                       by_cases c51 : ((rd_T44 l0_1 x9_1).f0) = 7
                       ·
                        rw [if_pos c51] at H
                        have c51b0 : (((rd_T44 l0_1 x9_1).f0) == 7) = true := beq_iff_eq.mpr c51
                        have c51b1 : (((rd_T44 l0_1 x9_1).f0) != 7) = false := bne_eq_false_iff_eq.mpr c51
                        clear c51
                        have H' := Aside0.mk H
                        clear H
                        have p263 : 0 ≤ (x9_1 : Int) := of_decide_eq_true (by first | (with_reducible assumption) | assumption)
                        have q263 : x9_1 < (t246.length : Int) := of_decide_eq_true (by first | (with_reducible assumption) | assumption)
                        obtain ⟨ad263, e263, hx263_0, hx263_1, hx263_2, hx263_3⟩ := at_T37 (Kd.R_reads' HO_6.out).2.2 x9_1 p263 q263
                        obtain rfl : ad261 = ad263 := (by injection e263)
                        have hn263_0 : ad261.block ≠ gb262 := Kd.own_blk (Kd.R_away HO_6.out (fun _ hk => hk.2))
                        have hn263_1 : ad261.block ≠ gb262 := Kd.own_blk (Kd.R_away HO_6.out (fun _ hk => hk.2))
                        have hn263_2 : ad261.block ≠ gb262 := Kd.own_blk (Kd.R_away HO_6.out (fun _ hk => hk.2))
                        have hn263_3 : ad261.block ≠ gb262 := Kd.own_blk (Kd.R_away HO_6.out (fun _ hk => hk.2))
                        replace hx263_0 := (cell_far (p := ⟨gb262, 0, none⟩) (by first | exact far_add hn263_0 | exact hn263_0) (.int .i64 ((rd_T37 t246 (rd ((rd_T44 l0_1 x9_1).f1) x12_3)).f0))).trans hx263_0
                        replace hx263_1 := (cell_far (p := ⟨gb262, 0, none⟩) (by first | exact far_add hn263_0 | exact hn263_0) (.int .i64 ((rd_T37 t246 (rd ((rd_T44 l0_1 x9_1).f1) x12_3)).f0))).trans hx263_1
                        replace hx263_2 := (cell_far (p := ⟨gb262, 0, none⟩) (by first | exact far_add hn263_0 | exact hn263_0) (.int .i64 ((rd_T37 t246 (rd ((rd_T44 l0_1 x9_1).f1) x12_3)).f0))).trans hx263_2
                        replace hx263_3 := (cell_far (p := ⟨gb262, 0, none⟩) (by first | exact far_add hn263_0 | exact hn263_0) (.int .i64 ((rd_T37 t246 (rd ((rd_T44 l0_1 x9_1).f1) x12_3)).f0))).trans hx263_3
                        replace hx263_0 := (cell_far (p := ⟨gb262, 1, none⟩) (by first | exact far_add hn263_1 | exact hn263_1) (.int .i64 ((rd_T37 t246 (rd ((rd_T44 l0_1 x9_1).f1) x12_3)).f1))).trans hx263_0
                        replace hx263_1 := (cell_far (p := ⟨gb262, 1, none⟩) (by first | exact far_add hn263_1 | exact hn263_1) (.int .i64 ((rd_T37 t246 (rd ((rd_T44 l0_1 x9_1).f1) x12_3)).f1))).trans hx263_1
                        replace hx263_2 := (cell_far (p := ⟨gb262, 1, none⟩) (by first | exact far_add hn263_1 | exact hn263_1) (.int .i64 ((rd_T37 t246 (rd ((rd_T44 l0_1 x9_1).f1) x12_3)).f1))).trans hx263_2
                        replace hx263_3 := (cell_far (p := ⟨gb262, 1, none⟩) (by first | exact far_add hn263_1 | exact hn263_1) (.int .i64 ((rd_T37 t246 (rd ((rd_T44 l0_1 x9_1).f1) x12_3)).f1))).trans hx263_3
                        replace hx263_0 := (cell_far (p := ⟨gb262, 2, none⟩) (by first | exact far_add hn263_2 | exact hn263_2) (.int .i64 ((rd_T37 t246 (rd ((rd_T44 l0_1 x9_1).f1) x12_3)).f2))).trans hx263_0
                        replace hx263_1 := (cell_far (p := ⟨gb262, 2, none⟩) (by first | exact far_add hn263_2 | exact hn263_2) (.int .i64 ((rd_T37 t246 (rd ((rd_T44 l0_1 x9_1).f1) x12_3)).f2))).trans hx263_1
                        replace hx263_2 := (cell_far (p := ⟨gb262, 2, none⟩) (by first | exact far_add hn263_2 | exact hn263_2) (.int .i64 ((rd_T37 t246 (rd ((rd_T44 l0_1 x9_1).f1) x12_3)).f2))).trans hx263_2
                        replace hx263_3 := (cell_far (p := ⟨gb262, 2, none⟩) (by first | exact far_add hn263_2 | exact hn263_2) (.int .i64 ((rd_T37 t246 (rd ((rd_T44 l0_1 x9_1).f1) x12_3)).f2))).trans hx263_3
                        replace hx263_0 := (cell_far (p := ⟨gb262, 3, none⟩) (by first | exact far_add hn263_3 | exact hn263_3) (.int .i64 ((rd_T37 t246 (rd ((rd_T44 l0_1 x9_1).f1) x12_3)).f3))).trans hx263_0
                        replace hx263_1 := (cell_far (p := ⟨gb262, 3, none⟩) (by first | exact far_add hn263_3 | exact hn263_3) (.int .i64 ((rd_T37 t246 (rd ((rd_T44 l0_1 x9_1).f1) x12_3)).f3))).trans hx263_1
                        replace hx263_2 := (cell_far (p := ⟨gb262, 3, none⟩) (by first | exact far_add hn263_3 | exact hn263_3) (.int .i64 ((rd_T37 t246 (rd ((rd_T44 l0_1 x9_1).f1) x12_3)).f3))).trans hx263_2
                        replace hx263_3 := (cell_far (p := ⟨gb262, 3, none⟩) (by first | exact far_add hn263_3 | exact hn263_3) (.int .i64 ((rd_T37 t246 (rd ((rd_T44 l0_1 x9_1).f1) x12_3)).f3))).trans hx263_3
                        (try have hy263_0 := fun (n_ : Nat) => (show ((((((w43.drewN n_).setCell ⟨gb262, 0, none⟩ (.int .i64 ((rd_T37 t246 (rd ((rd_T44 l0_1 x9_1).f1) x12_3)).f0))).setCell ⟨gb262, 1, none⟩ (.int .i64 ((rd_T37 t246 (rd ((rd_T44 l0_1 x9_1).f1) x12_3)).f1))).setCell ⟨gb262, 2, none⟩ (.int .i64 ((rd_T37 t246 (rd ((rd_T44 l0_1 x9_1).f1) x12_3)).f2))).setCell ⟨gb262, 3, none⟩ (.int .i64 ((rd_T37 t246 (rd ((rd_T44 l0_1 x9_1).f1) x12_3)).f3)))).cell? _ = some _ from hx263_0))
                        (try have hy263_1 := fun (n_ : Nat) => (show ((((((w43.drewN n_).setCell ⟨gb262, 0, none⟩ (.int .i64 ((rd_T37 t246 (rd ((rd_T44 l0_1 x9_1).f1) x12_3)).f0))).setCell ⟨gb262, 1, none⟩ (.int .i64 ((rd_T37 t246 (rd ((rd_T44 l0_1 x9_1).f1) x12_3)).f1))).setCell ⟨gb262, 2, none⟩ (.int .i64 ((rd_T37 t246 (rd ((rd_T44 l0_1 x9_1).f1) x12_3)).f2))).setCell ⟨gb262, 3, none⟩ (.int .i64 ((rd_T37 t246 (rd ((rd_T44 l0_1 x9_1).f1) x12_3)).f3)))).cell? _ = some _ from hx263_1))
                        (try have hy263_2 := fun (n_ : Nat) => (show ((((((w43.drewN n_).setCell ⟨gb262, 0, none⟩ (.int .i64 ((rd_T37 t246 (rd ((rd_T44 l0_1 x9_1).f1) x12_3)).f0))).setCell ⟨gb262, 1, none⟩ (.int .i64 ((rd_T37 t246 (rd ((rd_T44 l0_1 x9_1).f1) x12_3)).f1))).setCell ⟨gb262, 2, none⟩ (.int .i64 ((rd_T37 t246 (rd ((rd_T44 l0_1 x9_1).f1) x12_3)).f2))).setCell ⟨gb262, 3, none⟩ (.int .i64 ((rd_T37 t246 (rd ((rd_T44 l0_1 x9_1).f1) x12_3)).f3)))).cell? _ = some _ from hx263_2))
                        (try have hy263_3 := fun (n_ : Nat) => (show ((((((w43.drewN n_).setCell ⟨gb262, 0, none⟩ (.int .i64 ((rd_T37 t246 (rd ((rd_T44 l0_1 x9_1).f1) x12_3)).f0))).setCell ⟨gb262, 1, none⟩ (.int .i64 ((rd_T37 t246 (rd ((rd_T44 l0_1 x9_1).f1) x12_3)).f1))).setCell ⟨gb262, 2, none⟩ (.int .i64 ((rd_T37 t246 (rd ((rd_T44 l0_1 x9_1).f1) x12_3)).f2))).setCell ⟨gb262, 3, none⟩ (.int .i64 ((rd_T37 t246 (rd ((rd_T44 l0_1 x9_1).f1) x12_3)).f3)))).cell? _ = some _ from hx263_3))
                        clear hn263_0
                        clear hn263_1
                        clear hn263_2
                        clear hn263_3
                        replace p263 := eq_true p263
                        replace q263 := eq_true q263
                        have hnb52 := NB262_242.out
                        have hnc52 := NB242_262.out
                        have hnb53 := NB262_243.out
                        have hnc53 := NB243_262.out
                        obtain ⟨hcz54_0, hcz54_1, hcz54_2, hcz54_3, hfz54_0, hfz54_1, hfz54_2, hfz54_3⟩ := blk4 BK262.out
                        have p264 : 0 ≤ (x9_1 : Int) := of_decide_eq_true (by first | (with_reducible assumption) | assumption)
                        have q264 : x9_1 < (t246.length : Int) := of_decide_eq_true (by first | (with_reducible assumption) | assumption)
                        obtain ⟨ad264, e264, hx264_0, hx264_1, hx264_2, hx264_3⟩ := at_T37 (Kd.R_reads' HO_6.out).2.2 x9_1 p264 q264
                        obtain rfl : ad261 = ad264 := (by injection e264)
                        have hn264_0 : ad261.block ≠ gb262 := Kd.own_blk (Kd.R_away HO_6.out (fun _ hk => hk.2))
                        have hn264_1 : ad261.block ≠ gb262 := Kd.own_blk (Kd.R_away HO_6.out (fun _ hk => hk.2))
                        have hn264_2 : ad261.block ≠ gb262 := Kd.own_blk (Kd.R_away HO_6.out (fun _ hk => hk.2))
                        have hn264_3 : ad261.block ≠ gb262 := Kd.own_blk (Kd.R_away HO_6.out (fun _ hk => hk.2))
                        replace hx264_0 := (cell_far (p := ⟨gb262, 0, none⟩) (by first | exact far_add hn264_0 | exact hn264_0) (.int .i64 ((rd_T37 t246 (rd ((rd_T44 l0_1 x9_1).f1) x12_3)).f0))).trans hx264_0
                        replace hx264_1 := (cell_far (p := ⟨gb262, 0, none⟩) (by first | exact far_add hn264_0 | exact hn264_0) (.int .i64 ((rd_T37 t246 (rd ((rd_T44 l0_1 x9_1).f1) x12_3)).f0))).trans hx264_1
                        replace hx264_2 := (cell_far (p := ⟨gb262, 0, none⟩) (by first | exact far_add hn264_0 | exact hn264_0) (.int .i64 ((rd_T37 t246 (rd ((rd_T44 l0_1 x9_1).f1) x12_3)).f0))).trans hx264_2
                        replace hx264_3 := (cell_far (p := ⟨gb262, 0, none⟩) (by first | exact far_add hn264_0 | exact hn264_0) (.int .i64 ((rd_T37 t246 (rd ((rd_T44 l0_1 x9_1).f1) x12_3)).f0))).trans hx264_3
                        replace hx264_0 := (cell_far (p := ⟨gb262, 1, none⟩) (by first | exact far_add hn264_1 | exact hn264_1) (.int .i64 ((rd_T37 t246 (rd ((rd_T44 l0_1 x9_1).f1) x12_3)).f1))).trans hx264_0
                        replace hx264_1 := (cell_far (p := ⟨gb262, 1, none⟩) (by first | exact far_add hn264_1 | exact hn264_1) (.int .i64 ((rd_T37 t246 (rd ((rd_T44 l0_1 x9_1).f1) x12_3)).f1))).trans hx264_1
                        replace hx264_2 := (cell_far (p := ⟨gb262, 1, none⟩) (by first | exact far_add hn264_1 | exact hn264_1) (.int .i64 ((rd_T37 t246 (rd ((rd_T44 l0_1 x9_1).f1) x12_3)).f1))).trans hx264_2
                        replace hx264_3 := (cell_far (p := ⟨gb262, 1, none⟩) (by first | exact far_add hn264_1 | exact hn264_1) (.int .i64 ((rd_T37 t246 (rd ((rd_T44 l0_1 x9_1).f1) x12_3)).f1))).trans hx264_3
                        replace hx264_0 := (cell_far (p := ⟨gb262, 2, none⟩) (by first | exact far_add hn264_2 | exact hn264_2) (.int .i64 ((rd_T37 t246 (rd ((rd_T44 l0_1 x9_1).f1) x12_3)).f2))).trans hx264_0
                        replace hx264_1 := (cell_far (p := ⟨gb262, 2, none⟩) (by first | exact far_add hn264_2 | exact hn264_2) (.int .i64 ((rd_T37 t246 (rd ((rd_T44 l0_1 x9_1).f1) x12_3)).f2))).trans hx264_1
                        replace hx264_2 := (cell_far (p := ⟨gb262, 2, none⟩) (by first | exact far_add hn264_2 | exact hn264_2) (.int .i64 ((rd_T37 t246 (rd ((rd_T44 l0_1 x9_1).f1) x12_3)).f2))).trans hx264_2
                        replace hx264_3 := (cell_far (p := ⟨gb262, 2, none⟩) (by first | exact far_add hn264_2 | exact hn264_2) (.int .i64 ((rd_T37 t246 (rd ((rd_T44 l0_1 x9_1).f1) x12_3)).f2))).trans hx264_3
                        replace hx264_0 := (cell_far (p := ⟨gb262, 3, none⟩) (by first | exact far_add hn264_3 | exact hn264_3) (.int .i64 ((rd_T37 t246 (rd ((rd_T44 l0_1 x9_1).f1) x12_3)).f3))).trans hx264_0
                        replace hx264_1 := (cell_far (p := ⟨gb262, 3, none⟩) (by first | exact far_add hn264_3 | exact hn264_3) (.int .i64 ((rd_T37 t246 (rd ((rd_T44 l0_1 x9_1).f1) x12_3)).f3))).trans hx264_1
                        replace hx264_2 := (cell_far (p := ⟨gb262, 3, none⟩) (by first | exact far_add hn264_3 | exact hn264_3) (.int .i64 ((rd_T37 t246 (rd ((rd_T44 l0_1 x9_1).f1) x12_3)).f3))).trans hx264_2
                        replace hx264_3 := (cell_far (p := ⟨gb262, 3, none⟩) (by first | exact far_add hn264_3 | exact hn264_3) (.int .i64 ((rd_T37 t246 (rd ((rd_T44 l0_1 x9_1).f1) x12_3)).f3))).trans hx264_3
                        (try have hy264_0 := fun (n_ : Nat) => (show ((((((w43.drewN n_).setCell ⟨gb262, 0, none⟩ (.int .i64 ((rd_T37 t246 (rd ((rd_T44 l0_1 x9_1).f1) x12_3)).f0))).setCell ⟨gb262, 1, none⟩ (.int .i64 ((rd_T37 t246 (rd ((rd_T44 l0_1 x9_1).f1) x12_3)).f1))).setCell ⟨gb262, 2, none⟩ (.int .i64 ((rd_T37 t246 (rd ((rd_T44 l0_1 x9_1).f1) x12_3)).f2))).setCell ⟨gb262, 3, none⟩ (.int .i64 ((rd_T37 t246 (rd ((rd_T44 l0_1 x9_1).f1) x12_3)).f3)))).cell? _ = some _ from hx264_0))
                        (try have hy264_1 := fun (n_ : Nat) => (show ((((((w43.drewN n_).setCell ⟨gb262, 0, none⟩ (.int .i64 ((rd_T37 t246 (rd ((rd_T44 l0_1 x9_1).f1) x12_3)).f0))).setCell ⟨gb262, 1, none⟩ (.int .i64 ((rd_T37 t246 (rd ((rd_T44 l0_1 x9_1).f1) x12_3)).f1))).setCell ⟨gb262, 2, none⟩ (.int .i64 ((rd_T37 t246 (rd ((rd_T44 l0_1 x9_1).f1) x12_3)).f2))).setCell ⟨gb262, 3, none⟩ (.int .i64 ((rd_T37 t246 (rd ((rd_T44 l0_1 x9_1).f1) x12_3)).f3)))).cell? _ = some _ from hx264_1))
                        (try have hy264_2 := fun (n_ : Nat) => (show ((((((w43.drewN n_).setCell ⟨gb262, 0, none⟩ (.int .i64 ((rd_T37 t246 (rd ((rd_T44 l0_1 x9_1).f1) x12_3)).f0))).setCell ⟨gb262, 1, none⟩ (.int .i64 ((rd_T37 t246 (rd ((rd_T44 l0_1 x9_1).f1) x12_3)).f1))).setCell ⟨gb262, 2, none⟩ (.int .i64 ((rd_T37 t246 (rd ((rd_T44 l0_1 x9_1).f1) x12_3)).f2))).setCell ⟨gb262, 3, none⟩ (.int .i64 ((rd_T37 t246 (rd ((rd_T44 l0_1 x9_1).f1) x12_3)).f3)))).cell? _ = some _ from hx264_2))
                        (try have hy264_3 := fun (n_ : Nat) => (show ((((((w43.drewN n_).setCell ⟨gb262, 0, none⟩ (.int .i64 ((rd_T37 t246 (rd ((rd_T44 l0_1 x9_1).f1) x12_3)).f0))).setCell ⟨gb262, 1, none⟩ (.int .i64 ((rd_T37 t246 (rd ((rd_T44 l0_1 x9_1).f1) x12_3)).f1))).setCell ⟨gb262, 2, none⟩ (.int .i64 ((rd_T37 t246 (rd ((rd_T44 l0_1 x9_1).f1) x12_3)).f2))).setCell ⟨gb262, 3, none⟩ (.int .i64 ((rd_T37 t246 (rd ((rd_T44 l0_1 x9_1).f1) x12_3)).f3)))).cell? _ = some _ from hx264_3))
                        clear hn264_0
                        clear hn264_1
                        clear hn264_2
                        clear hn264_3
                        replace p264 := eq_true p264
                        replace q264 := eq_true q264
                        have p265 : 0 ≤ (x9_1 : Int) := of_decide_eq_true (by first | (with_reducible assumption) | assumption)
                        have q265 : x9_1 < (t246.length : Int) := of_decide_eq_true (by first | (with_reducible assumption) | assumption)
                        obtain ⟨ad265, e265, hx265_0, hx265_1, hx265_2, hx265_3⟩ := at_T37 (Kd.R_reads' HO_6.out).2.2 x9_1 p265 q265
                        obtain rfl : ad261 = ad265 := (by injection e265)
                        have hn265_0 : ad261.block ≠ gb262 := Kd.own_blk (Kd.R_away HO_6.out (fun _ hk => hk.2))
                        have hn265_1 : ad261.block ≠ gb262 := Kd.own_blk (Kd.R_away HO_6.out (fun _ hk => hk.2))
                        have hn265_2 : ad261.block ≠ gb262 := Kd.own_blk (Kd.R_away HO_6.out (fun _ hk => hk.2))
                        have hn265_3 : ad261.block ≠ gb262 := Kd.own_blk (Kd.R_away HO_6.out (fun _ hk => hk.2))
                        replace hx265_0 := (cell_far (p := ⟨gb262, 0, none⟩) (by first | exact far_add hn265_0 | exact hn265_0) (.int .i64 ((rd_T37 t246 (rd ((rd_T44 l0_1 x9_1).f1) x12_3)).f0))).trans hx265_0
                        replace hx265_1 := (cell_far (p := ⟨gb262, 0, none⟩) (by first | exact far_add hn265_0 | exact hn265_0) (.int .i64 ((rd_T37 t246 (rd ((rd_T44 l0_1 x9_1).f1) x12_3)).f0))).trans hx265_1
                        replace hx265_2 := (cell_far (p := ⟨gb262, 0, none⟩) (by first | exact far_add hn265_0 | exact hn265_0) (.int .i64 ((rd_T37 t246 (rd ((rd_T44 l0_1 x9_1).f1) x12_3)).f0))).trans hx265_2
                        replace hx265_3 := (cell_far (p := ⟨gb262, 0, none⟩) (by first | exact far_add hn265_0 | exact hn265_0) (.int .i64 ((rd_T37 t246 (rd ((rd_T44 l0_1 x9_1).f1) x12_3)).f0))).trans hx265_3
                        replace hx265_0 := (cell_far (p := ⟨gb262, 1, none⟩) (by first | exact far_add hn265_1 | exact hn265_1) (.int .i64 ((rd_T37 t246 (rd ((rd_T44 l0_1 x9_1).f1) x12_3)).f1))).trans hx265_0
                        replace hx265_1 := (cell_far (p := ⟨gb262, 1, none⟩) (by first | exact far_add hn265_1 | exact hn265_1) (.int .i64 ((rd_T37 t246 (rd ((rd_T44 l0_1 x9_1).f1) x12_3)).f1))).trans hx265_1
                        replace hx265_2 := (cell_far (p := ⟨gb262, 1, none⟩) (by first | exact far_add hn265_1 | exact hn265_1) (.int .i64 ((rd_T37 t246 (rd ((rd_T44 l0_1 x9_1).f1) x12_3)).f1))).trans hx265_2
                        replace hx265_3 := (cell_far (p := ⟨gb262, 1, none⟩) (by first | exact far_add hn265_1 | exact hn265_1) (.int .i64 ((rd_T37 t246 (rd ((rd_T44 l0_1 x9_1).f1) x12_3)).f1))).trans hx265_3
                        replace hx265_0 := (cell_far (p := ⟨gb262, 2, none⟩) (by first | exact far_add hn265_2 | exact hn265_2) (.int .i64 ((rd_T37 t246 (rd ((rd_T44 l0_1 x9_1).f1) x12_3)).f2))).trans hx265_0
                        replace hx265_1 := (cell_far (p := ⟨gb262, 2, none⟩) (by first | exact far_add hn265_2 | exact hn265_2) (.int .i64 ((rd_T37 t246 (rd ((rd_T44 l0_1 x9_1).f1) x12_3)).f2))).trans hx265_1
                        replace hx265_2 := (cell_far (p := ⟨gb262, 2, none⟩) (by first | exact far_add hn265_2 | exact hn265_2) (.int .i64 ((rd_T37 t246 (rd ((rd_T44 l0_1 x9_1).f1) x12_3)).f2))).trans hx265_2
                        replace hx265_3 := (cell_far (p := ⟨gb262, 2, none⟩) (by first | exact far_add hn265_2 | exact hn265_2) (.int .i64 ((rd_T37 t246 (rd ((rd_T44 l0_1 x9_1).f1) x12_3)).f2))).trans hx265_3
                        replace hx265_0 := (cell_far (p := ⟨gb262, 3, none⟩) (by first | exact far_add hn265_3 | exact hn265_3) (.int .i64 ((rd_T37 t246 (rd ((rd_T44 l0_1 x9_1).f1) x12_3)).f3))).trans hx265_0
                        replace hx265_1 := (cell_far (p := ⟨gb262, 3, none⟩) (by first | exact far_add hn265_3 | exact hn265_3) (.int .i64 ((rd_T37 t246 (rd ((rd_T44 l0_1 x9_1).f1) x12_3)).f3))).trans hx265_1
                        replace hx265_2 := (cell_far (p := ⟨gb262, 3, none⟩) (by first | exact far_add hn265_3 | exact hn265_3) (.int .i64 ((rd_T37 t246 (rd ((rd_T44 l0_1 x9_1).f1) x12_3)).f3))).trans hx265_2
                        replace hx265_3 := (cell_far (p := ⟨gb262, 3, none⟩) (by first | exact far_add hn265_3 | exact hn265_3) (.int .i64 ((rd_T37 t246 (rd ((rd_T44 l0_1 x9_1).f1) x12_3)).f3))).trans hx265_3
                        (try have hy265_0 := fun (n_ : Nat) => (show ((((((w43.drewN n_).setCell ⟨gb262, 0, none⟩ (.int .i64 ((rd_T37 t246 (rd ((rd_T44 l0_1 x9_1).f1) x12_3)).f0))).setCell ⟨gb262, 1, none⟩ (.int .i64 ((rd_T37 t246 (rd ((rd_T44 l0_1 x9_1).f1) x12_3)).f1))).setCell ⟨gb262, 2, none⟩ (.int .i64 ((rd_T37 t246 (rd ((rd_T44 l0_1 x9_1).f1) x12_3)).f2))).setCell ⟨gb262, 3, none⟩ (.int .i64 ((rd_T37 t246 (rd ((rd_T44 l0_1 x9_1).f1) x12_3)).f3)))).cell? _ = some _ from hx265_0))
                        (try have hy265_1 := fun (n_ : Nat) => (show ((((((w43.drewN n_).setCell ⟨gb262, 0, none⟩ (.int .i64 ((rd_T37 t246 (rd ((rd_T44 l0_1 x9_1).f1) x12_3)).f0))).setCell ⟨gb262, 1, none⟩ (.int .i64 ((rd_T37 t246 (rd ((rd_T44 l0_1 x9_1).f1) x12_3)).f1))).setCell ⟨gb262, 2, none⟩ (.int .i64 ((rd_T37 t246 (rd ((rd_T44 l0_1 x9_1).f1) x12_3)).f2))).setCell ⟨gb262, 3, none⟩ (.int .i64 ((rd_T37 t246 (rd ((rd_T44 l0_1 x9_1).f1) x12_3)).f3)))).cell? _ = some _ from hx265_1))
                        (try have hy265_2 := fun (n_ : Nat) => (show ((((((w43.drewN n_).setCell ⟨gb262, 0, none⟩ (.int .i64 ((rd_T37 t246 (rd ((rd_T44 l0_1 x9_1).f1) x12_3)).f0))).setCell ⟨gb262, 1, none⟩ (.int .i64 ((rd_T37 t246 (rd ((rd_T44 l0_1 x9_1).f1) x12_3)).f1))).setCell ⟨gb262, 2, none⟩ (.int .i64 ((rd_T37 t246 (rd ((rd_T44 l0_1 x9_1).f1) x12_3)).f2))).setCell ⟨gb262, 3, none⟩ (.int .i64 ((rd_T37 t246 (rd ((rd_T44 l0_1 x9_1).f1) x12_3)).f3)))).cell? _ = some _ from hx265_2))
                        (try have hy265_3 := fun (n_ : Nat) => (show ((((((w43.drewN n_).setCell ⟨gb262, 0, none⟩ (.int .i64 ((rd_T37 t246 (rd ((rd_T44 l0_1 x9_1).f1) x12_3)).f0))).setCell ⟨gb262, 1, none⟩ (.int .i64 ((rd_T37 t246 (rd ((rd_T44 l0_1 x9_1).f1) x12_3)).f1))).setCell ⟨gb262, 2, none⟩ (.int .i64 ((rd_T37 t246 (rd ((rd_T44 l0_1 x9_1).f1) x12_3)).f2))).setCell ⟨gb262, 3, none⟩ (.int .i64 ((rd_T37 t246 (rd ((rd_T44 l0_1 x9_1).f1) x12_3)).f3)))).cell? _ = some _ from hx265_3))
                        clear hn265_0
                        clear hn265_1
                        clear hn265_2
                        clear hn265_3
                        replace p265 := eq_true p265
                        replace q265 := eq_true q265
                        have hnb55 := NB242_243.out
                        have hnc55 := NB243_242.out
                        obtain ⟨hcz56_0, hcz56_1, hfz56_0, hfz56_1⟩ := blk2 BK242.out
                        have p266 : 0 ≤ (x9_1 : Int) := of_decide_eq_true (by first | (with_reducible assumption) | assumption)
                        have q266 : x9_1 < (l0_1.length : Int) := of_decide_eq_true (by first | (with_reducible assumption) | assumption)
                        obtain ⟨ad266, A266_1, c266_1, A266_4, c266_4, A266_8, c266_8, A266_9, c266_9, A266_13, c266_13, A266_14, c266_14, A266_15, c266_15, e266, hx266_0, hx266_1, hx266_2, hx266_3, hx266_4, hx266_5, hx266_6, hx266_7, hx266_8, hx266_9, hx266_10, hx266_11, hx266_12, hx266_13, hx266_14, hx266_15, hl266_1, hi266_1, hl266_4, hi266_4, hl266_8, hi266_8, hl266_9, hi266_9, hl266_13, hi266_13, hl266_14, hi266_14, hl266_15, hi266_15⟩ := at_T44 HR0_1.out x9_1 p266 q266
                        obtain rfl : ad258 = ad266 := (by injection e266)
                        have hn266_0 : ad258.block ≠ gb262 := Nat.ne_of_lt (Nat.lt_of_lt_of_le (by have := World.block_lt_of_cell? _ _ hx266_0; first | rwa [add_block] at this | exact this) GW262.out)
                        have hn266_1 : ad258.block ≠ gb262 := Nat.ne_of_lt (Nat.lt_of_lt_of_le (by have := World.block_lt_of_cell? _ _ hx266_0; first | rwa [add_block] at this | exact this) GW262.out)
                        have hn266_2 : ad258.block ≠ gb262 := Nat.ne_of_lt (Nat.lt_of_lt_of_le (by have := World.block_lt_of_cell? _ _ hx266_0; first | rwa [add_block] at this | exact this) GW262.out)
                        have hn266_3 : ad258.block ≠ gb262 := Nat.ne_of_lt (Nat.lt_of_lt_of_le (by have := World.block_lt_of_cell? _ _ hx266_0; first | rwa [add_block] at this | exact this) GW262.out)
                        replace hx266_0 := (HB.out.cell (World.block_lt_of_cell? w _ hx266_0)).trans hx266_0
                        replace hx266_1 := (HB.out.cell (World.block_lt_of_cell? w _ hx266_1)).trans hx266_1
                        replace hx266_2 := (HB.out.cell (World.block_lt_of_cell? w _ hx266_2)).trans hx266_2
                        replace hx266_3 := (HB.out.cell (World.block_lt_of_cell? w _ hx266_3)).trans hx266_3
                        replace hx266_4 := (HB.out.cell (World.block_lt_of_cell? w _ hx266_4)).trans hx266_4
                        replace hx266_5 := (HB.out.cell (World.block_lt_of_cell? w _ hx266_5)).trans hx266_5
                        replace hx266_6 := (HB.out.cell (World.block_lt_of_cell? w _ hx266_6)).trans hx266_6
                        replace hx266_7 := (HB.out.cell (World.block_lt_of_cell? w _ hx266_7)).trans hx266_7
                        replace hx266_8 := (HB.out.cell (World.block_lt_of_cell? w _ hx266_8)).trans hx266_8
                        replace hx266_9 := (HB.out.cell (World.block_lt_of_cell? w _ hx266_9)).trans hx266_9
                        replace hx266_10 := (HB.out.cell (World.block_lt_of_cell? w _ hx266_10)).trans hx266_10
                        replace hx266_11 := (HB.out.cell (World.block_lt_of_cell? w _ hx266_11)).trans hx266_11
                        replace hx266_12 := (HB.out.cell (World.block_lt_of_cell? w _ hx266_12)).trans hx266_12
                        replace hx266_13 := (HB.out.cell (World.block_lt_of_cell? w _ hx266_13)).trans hx266_13
                        replace hx266_14 := (HB.out.cell (World.block_lt_of_cell? w _ hx266_14)).trans hx266_14
                        replace hx266_15 := (HB.out.cell (World.block_lt_of_cell? w _ hx266_15)).trans hx266_15
                        have HR266_1 := Aside0.mk hi266_1
                        have HC266_1 := Aside0.mk hl266_1
                        clear hi266_1 hl266_1
                        have HR266_4 := Aside0.mk hi266_4
                        have HC266_4 := Aside0.mk hl266_4
                        clear hi266_4 hl266_4
                        have HR266_8 := Aside0.mk hi266_8
                        have HC266_8 := Aside0.mk hl266_8
                        clear hi266_8 hl266_8
                        have HR266_9 := Aside0.mk hi266_9
                        have HC266_9 := Aside0.mk hl266_9
                        clear hi266_9 hl266_9
                        have HR266_13 := Aside0.mk hi266_13
                        have HC266_13 := Aside0.mk hl266_13
                        clear hi266_13 hl266_13
                        have HR266_14 := Aside0.mk hi266_14
                        have HC266_14 := Aside0.mk hl266_14
                        clear hi266_14 hl266_14
                        have HR266_15 := Aside0.mk hi266_15
                        have HC266_15 := Aside0.mk hl266_15
                        clear hi266_15 hl266_15
                        replace hx266_0 := (cell_far (p := ⟨gb262, 0, none⟩) (by first | exact far_add hn266_0 | exact hn266_0) (.int .i64 ((rd_T37 t246 (rd ((rd_T44 l0_1 x9_1).f1) x12_3)).f0))).trans hx266_0
                        replace hx266_1 := (cell_far (p := ⟨gb262, 0, none⟩) (by first | exact far_add hn266_0 | exact hn266_0) (.int .i64 ((rd_T37 t246 (rd ((rd_T44 l0_1 x9_1).f1) x12_3)).f0))).trans hx266_1
                        replace hx266_2 := (cell_far (p := ⟨gb262, 0, none⟩) (by first | exact far_add hn266_0 | exact hn266_0) (.int .i64 ((rd_T37 t246 (rd ((rd_T44 l0_1 x9_1).f1) x12_3)).f0))).trans hx266_2
                        replace hx266_3 := (cell_far (p := ⟨gb262, 0, none⟩) (by first | exact far_add hn266_0 | exact hn266_0) (.int .i64 ((rd_T37 t246 (rd ((rd_T44 l0_1 x9_1).f1) x12_3)).f0))).trans hx266_3
                        replace hx266_4 := (cell_far (p := ⟨gb262, 0, none⟩) (by first | exact far_add hn266_0 | exact hn266_0) (.int .i64 ((rd_T37 t246 (rd ((rd_T44 l0_1 x9_1).f1) x12_3)).f0))).trans hx266_4
                        replace hx266_5 := (cell_far (p := ⟨gb262, 0, none⟩) (by first | exact far_add hn266_0 | exact hn266_0) (.int .i64 ((rd_T37 t246 (rd ((rd_T44 l0_1 x9_1).f1) x12_3)).f0))).trans hx266_5
                        replace hx266_6 := (cell_far (p := ⟨gb262, 0, none⟩) (by first | exact far_add hn266_0 | exact hn266_0) (.int .i64 ((rd_T37 t246 (rd ((rd_T44 l0_1 x9_1).f1) x12_3)).f0))).trans hx266_6
                        replace hx266_7 := (cell_far (p := ⟨gb262, 0, none⟩) (by first | exact far_add hn266_0 | exact hn266_0) (.int .i64 ((rd_T37 t246 (rd ((rd_T44 l0_1 x9_1).f1) x12_3)).f0))).trans hx266_7
                        replace hx266_8 := (cell_far (p := ⟨gb262, 0, none⟩) (by first | exact far_add hn266_0 | exact hn266_0) (.int .i64 ((rd_T37 t246 (rd ((rd_T44 l0_1 x9_1).f1) x12_3)).f0))).trans hx266_8
                        replace hx266_9 := (cell_far (p := ⟨gb262, 0, none⟩) (by first | exact far_add hn266_0 | exact hn266_0) (.int .i64 ((rd_T37 t246 (rd ((rd_T44 l0_1 x9_1).f1) x12_3)).f0))).trans hx266_9
                        replace hx266_10 := (cell_far (p := ⟨gb262, 0, none⟩) (by first | exact far_add hn266_0 | exact hn266_0) (.int .i64 ((rd_T37 t246 (rd ((rd_T44 l0_1 x9_1).f1) x12_3)).f0))).trans hx266_10
                        replace hx266_11 := (cell_far (p := ⟨gb262, 0, none⟩) (by first | exact far_add hn266_0 | exact hn266_0) (.int .i64 ((rd_T37 t246 (rd ((rd_T44 l0_1 x9_1).f1) x12_3)).f0))).trans hx266_11
                        replace hx266_12 := (cell_far (p := ⟨gb262, 0, none⟩) (by first | exact far_add hn266_0 | exact hn266_0) (.int .i64 ((rd_T37 t246 (rd ((rd_T44 l0_1 x9_1).f1) x12_3)).f0))).trans hx266_12
                        replace hx266_13 := (cell_far (p := ⟨gb262, 0, none⟩) (by first | exact far_add hn266_0 | exact hn266_0) (.int .i64 ((rd_T37 t246 (rd ((rd_T44 l0_1 x9_1).f1) x12_3)).f0))).trans hx266_13
                        replace hx266_14 := (cell_far (p := ⟨gb262, 0, none⟩) (by first | exact far_add hn266_0 | exact hn266_0) (.int .i64 ((rd_T37 t246 (rd ((rd_T44 l0_1 x9_1).f1) x12_3)).f0))).trans hx266_14
                        replace hx266_15 := (cell_far (p := ⟨gb262, 0, none⟩) (by first | exact far_add hn266_0 | exact hn266_0) (.int .i64 ((rd_T37 t246 (rd ((rd_T44 l0_1 x9_1).f1) x12_3)).f0))).trans hx266_15
                        replace hx266_0 := (cell_far (p := ⟨gb262, 1, none⟩) (by first | exact far_add hn266_1 | exact hn266_1) (.int .i64 ((rd_T37 t246 (rd ((rd_T44 l0_1 x9_1).f1) x12_3)).f1))).trans hx266_0
                        replace hx266_1 := (cell_far (p := ⟨gb262, 1, none⟩) (by first | exact far_add hn266_1 | exact hn266_1) (.int .i64 ((rd_T37 t246 (rd ((rd_T44 l0_1 x9_1).f1) x12_3)).f1))).trans hx266_1
                        replace hx266_2 := (cell_far (p := ⟨gb262, 1, none⟩) (by first | exact far_add hn266_1 | exact hn266_1) (.int .i64 ((rd_T37 t246 (rd ((rd_T44 l0_1 x9_1).f1) x12_3)).f1))).trans hx266_2
                        replace hx266_3 := (cell_far (p := ⟨gb262, 1, none⟩) (by first | exact far_add hn266_1 | exact hn266_1) (.int .i64 ((rd_T37 t246 (rd ((rd_T44 l0_1 x9_1).f1) x12_3)).f1))).trans hx266_3
                        replace hx266_4 := (cell_far (p := ⟨gb262, 1, none⟩) (by first | exact far_add hn266_1 | exact hn266_1) (.int .i64 ((rd_T37 t246 (rd ((rd_T44 l0_1 x9_1).f1) x12_3)).f1))).trans hx266_4
                        replace hx266_5 := (cell_far (p := ⟨gb262, 1, none⟩) (by first | exact far_add hn266_1 | exact hn266_1) (.int .i64 ((rd_T37 t246 (rd ((rd_T44 l0_1 x9_1).f1) x12_3)).f1))).trans hx266_5
                        replace hx266_6 := (cell_far (p := ⟨gb262, 1, none⟩) (by first | exact far_add hn266_1 | exact hn266_1) (.int .i64 ((rd_T37 t246 (rd ((rd_T44 l0_1 x9_1).f1) x12_3)).f1))).trans hx266_6
                        replace hx266_7 := (cell_far (p := ⟨gb262, 1, none⟩) (by first | exact far_add hn266_1 | exact hn266_1) (.int .i64 ((rd_T37 t246 (rd ((rd_T44 l0_1 x9_1).f1) x12_3)).f1))).trans hx266_7
                        replace hx266_8 := (cell_far (p := ⟨gb262, 1, none⟩) (by first | exact far_add hn266_1 | exact hn266_1) (.int .i64 ((rd_T37 t246 (rd ((rd_T44 l0_1 x9_1).f1) x12_3)).f1))).trans hx266_8
                        replace hx266_9 := (cell_far (p := ⟨gb262, 1, none⟩) (by first | exact far_add hn266_1 | exact hn266_1) (.int .i64 ((rd_T37 t246 (rd ((rd_T44 l0_1 x9_1).f1) x12_3)).f1))).trans hx266_9
                        replace hx266_10 := (cell_far (p := ⟨gb262, 1, none⟩) (by first | exact far_add hn266_1 | exact hn266_1) (.int .i64 ((rd_T37 t246 (rd ((rd_T44 l0_1 x9_1).f1) x12_3)).f1))).trans hx266_10
                        replace hx266_11 := (cell_far (p := ⟨gb262, 1, none⟩) (by first | exact far_add hn266_1 | exact hn266_1) (.int .i64 ((rd_T37 t246 (rd ((rd_T44 l0_1 x9_1).f1) x12_3)).f1))).trans hx266_11
                        replace hx266_12 := (cell_far (p := ⟨gb262, 1, none⟩) (by first | exact far_add hn266_1 | exact hn266_1) (.int .i64 ((rd_T37 t246 (rd ((rd_T44 l0_1 x9_1).f1) x12_3)).f1))).trans hx266_12
                        replace hx266_13 := (cell_far (p := ⟨gb262, 1, none⟩) (by first | exact far_add hn266_1 | exact hn266_1) (.int .i64 ((rd_T37 t246 (rd ((rd_T44 l0_1 x9_1).f1) x12_3)).f1))).trans hx266_13
                        replace hx266_14 := (cell_far (p := ⟨gb262, 1, none⟩) (by first | exact far_add hn266_1 | exact hn266_1) (.int .i64 ((rd_T37 t246 (rd ((rd_T44 l0_1 x9_1).f1) x12_3)).f1))).trans hx266_14
                        replace hx266_15 := (cell_far (p := ⟨gb262, 1, none⟩) (by first | exact far_add hn266_1 | exact hn266_1) (.int .i64 ((rd_T37 t246 (rd ((rd_T44 l0_1 x9_1).f1) x12_3)).f1))).trans hx266_15
                        replace hx266_0 := (cell_far (p := ⟨gb262, 2, none⟩) (by first | exact far_add hn266_2 | exact hn266_2) (.int .i64 ((rd_T37 t246 (rd ((rd_T44 l0_1 x9_1).f1) x12_3)).f2))).trans hx266_0
                        replace hx266_1 := (cell_far (p := ⟨gb262, 2, none⟩) (by first | exact far_add hn266_2 | exact hn266_2) (.int .i64 ((rd_T37 t246 (rd ((rd_T44 l0_1 x9_1).f1) x12_3)).f2))).trans hx266_1
                        replace hx266_2 := (cell_far (p := ⟨gb262, 2, none⟩) (by first | exact far_add hn266_2 | exact hn266_2) (.int .i64 ((rd_T37 t246 (rd ((rd_T44 l0_1 x9_1).f1) x12_3)).f2))).trans hx266_2
                        replace hx266_3 := (cell_far (p := ⟨gb262, 2, none⟩) (by first | exact far_add hn266_2 | exact hn266_2) (.int .i64 ((rd_T37 t246 (rd ((rd_T44 l0_1 x9_1).f1) x12_3)).f2))).trans hx266_3
                        replace hx266_4 := (cell_far (p := ⟨gb262, 2, none⟩) (by first | exact far_add hn266_2 | exact hn266_2) (.int .i64 ((rd_T37 t246 (rd ((rd_T44 l0_1 x9_1).f1) x12_3)).f2))).trans hx266_4
                        replace hx266_5 := (cell_far (p := ⟨gb262, 2, none⟩) (by first | exact far_add hn266_2 | exact hn266_2) (.int .i64 ((rd_T37 t246 (rd ((rd_T44 l0_1 x9_1).f1) x12_3)).f2))).trans hx266_5
                        replace hx266_6 := (cell_far (p := ⟨gb262, 2, none⟩) (by first | exact far_add hn266_2 | exact hn266_2) (.int .i64 ((rd_T37 t246 (rd ((rd_T44 l0_1 x9_1).f1) x12_3)).f2))).trans hx266_6
                        replace hx266_7 := (cell_far (p := ⟨gb262, 2, none⟩) (by first | exact far_add hn266_2 | exact hn266_2) (.int .i64 ((rd_T37 t246 (rd ((rd_T44 l0_1 x9_1).f1) x12_3)).f2))).trans hx266_7
                        replace hx266_8 := (cell_far (p := ⟨gb262, 2, none⟩) (by first | exact far_add hn266_2 | exact hn266_2) (.int .i64 ((rd_T37 t246 (rd ((rd_T44 l0_1 x9_1).f1) x12_3)).f2))).trans hx266_8
                        replace hx266_9 := (cell_far (p := ⟨gb262, 2, none⟩) (by first | exact far_add hn266_2 | exact hn266_2) (.int .i64 ((rd_T37 t246 (rd ((rd_T44 l0_1 x9_1).f1) x12_3)).f2))).trans hx266_9
                        replace hx266_10 := (cell_far (p := ⟨gb262, 2, none⟩) (by first | exact far_add hn266_2 | exact hn266_2) (.int .i64 ((rd_T37 t246 (rd ((rd_T44 l0_1 x9_1).f1) x12_3)).f2))).trans hx266_10
                        replace hx266_11 := (cell_far (p := ⟨gb262, 2, none⟩) (by first | exact far_add hn266_2 | exact hn266_2) (.int .i64 ((rd_T37 t246 (rd ((rd_T44 l0_1 x9_1).f1) x12_3)).f2))).trans hx266_11
                        replace hx266_12 := (cell_far (p := ⟨gb262, 2, none⟩) (by first | exact far_add hn266_2 | exact hn266_2) (.int .i64 ((rd_T37 t246 (rd ((rd_T44 l0_1 x9_1).f1) x12_3)).f2))).trans hx266_12
                        replace hx266_13 := (cell_far (p := ⟨gb262, 2, none⟩) (by first | exact far_add hn266_2 | exact hn266_2) (.int .i64 ((rd_T37 t246 (rd ((rd_T44 l0_1 x9_1).f1) x12_3)).f2))).trans hx266_13
                        replace hx266_14 := (cell_far (p := ⟨gb262, 2, none⟩) (by first | exact far_add hn266_2 | exact hn266_2) (.int .i64 ((rd_T37 t246 (rd ((rd_T44 l0_1 x9_1).f1) x12_3)).f2))).trans hx266_14
                        replace hx266_15 := (cell_far (p := ⟨gb262, 2, none⟩) (by first | exact far_add hn266_2 | exact hn266_2) (.int .i64 ((rd_T37 t246 (rd ((rd_T44 l0_1 x9_1).f1) x12_3)).f2))).trans hx266_15
                        replace hx266_0 := (cell_far (p := ⟨gb262, 3, none⟩) (by first | exact far_add hn266_3 | exact hn266_3) (.int .i64 ((rd_T37 t246 (rd ((rd_T44 l0_1 x9_1).f1) x12_3)).f3))).trans hx266_0
                        replace hx266_1 := (cell_far (p := ⟨gb262, 3, none⟩) (by first | exact far_add hn266_3 | exact hn266_3) (.int .i64 ((rd_T37 t246 (rd ((rd_T44 l0_1 x9_1).f1) x12_3)).f3))).trans hx266_1
                        replace hx266_2 := (cell_far (p := ⟨gb262, 3, none⟩) (by first | exact far_add hn266_3 | exact hn266_3) (.int .i64 ((rd_T37 t246 (rd ((rd_T44 l0_1 x9_1).f1) x12_3)).f3))).trans hx266_2
                        replace hx266_3 := (cell_far (p := ⟨gb262, 3, none⟩) (by first | exact far_add hn266_3 | exact hn266_3) (.int .i64 ((rd_T37 t246 (rd ((rd_T44 l0_1 x9_1).f1) x12_3)).f3))).trans hx266_3
                        replace hx266_4 := (cell_far (p := ⟨gb262, 3, none⟩) (by first | exact far_add hn266_3 | exact hn266_3) (.int .i64 ((rd_T37 t246 (rd ((rd_T44 l0_1 x9_1).f1) x12_3)).f3))).trans hx266_4
                        replace hx266_5 := (cell_far (p := ⟨gb262, 3, none⟩) (by first | exact far_add hn266_3 | exact hn266_3) (.int .i64 ((rd_T37 t246 (rd ((rd_T44 l0_1 x9_1).f1) x12_3)).f3))).trans hx266_5
                        replace hx266_6 := (cell_far (p := ⟨gb262, 3, none⟩) (by first | exact far_add hn266_3 | exact hn266_3) (.int .i64 ((rd_T37 t246 (rd ((rd_T44 l0_1 x9_1).f1) x12_3)).f3))).trans hx266_6
                        replace hx266_7 := (cell_far (p := ⟨gb262, 3, none⟩) (by first | exact far_add hn266_3 | exact hn266_3) (.int .i64 ((rd_T37 t246 (rd ((rd_T44 l0_1 x9_1).f1) x12_3)).f3))).trans hx266_7
                        replace hx266_8 := (cell_far (p := ⟨gb262, 3, none⟩) (by first | exact far_add hn266_3 | exact hn266_3) (.int .i64 ((rd_T37 t246 (rd ((rd_T44 l0_1 x9_1).f1) x12_3)).f3))).trans hx266_8
                        replace hx266_9 := (cell_far (p := ⟨gb262, 3, none⟩) (by first | exact far_add hn266_3 | exact hn266_3) (.int .i64 ((rd_T37 t246 (rd ((rd_T44 l0_1 x9_1).f1) x12_3)).f3))).trans hx266_9
                        replace hx266_10 := (cell_far (p := ⟨gb262, 3, none⟩) (by first | exact far_add hn266_3 | exact hn266_3) (.int .i64 ((rd_T37 t246 (rd ((rd_T44 l0_1 x9_1).f1) x12_3)).f3))).trans hx266_10
                        replace hx266_11 := (cell_far (p := ⟨gb262, 3, none⟩) (by first | exact far_add hn266_3 | exact hn266_3) (.int .i64 ((rd_T37 t246 (rd ((rd_T44 l0_1 x9_1).f1) x12_3)).f3))).trans hx266_11
                        replace hx266_12 := (cell_far (p := ⟨gb262, 3, none⟩) (by first | exact far_add hn266_3 | exact hn266_3) (.int .i64 ((rd_T37 t246 (rd ((rd_T44 l0_1 x9_1).f1) x12_3)).f3))).trans hx266_12
                        replace hx266_13 := (cell_far (p := ⟨gb262, 3, none⟩) (by first | exact far_add hn266_3 | exact hn266_3) (.int .i64 ((rd_T37 t246 (rd ((rd_T44 l0_1 x9_1).f1) x12_3)).f3))).trans hx266_13
                        replace hx266_14 := (cell_far (p := ⟨gb262, 3, none⟩) (by first | exact far_add hn266_3 | exact hn266_3) (.int .i64 ((rd_T37 t246 (rd ((rd_T44 l0_1 x9_1).f1) x12_3)).f3))).trans hx266_14
                        replace hx266_15 := (cell_far (p := ⟨gb262, 3, none⟩) (by first | exact far_add hn266_3 | exact hn266_3) (.int .i64 ((rd_T37 t246 (rd ((rd_T44 l0_1 x9_1).f1) x12_3)).f3))).trans hx266_15
                        (try have hy266_0 := fun (n_ : Nat) => (show ((((((w43.drewN n_).setCell ⟨gb262, 0, none⟩ (.int .i64 ((rd_T37 t246 (rd ((rd_T44 l0_1 x9_1).f1) x12_3)).f0))).setCell ⟨gb262, 1, none⟩ (.int .i64 ((rd_T37 t246 (rd ((rd_T44 l0_1 x9_1).f1) x12_3)).f1))).setCell ⟨gb262, 2, none⟩ (.int .i64 ((rd_T37 t246 (rd ((rd_T44 l0_1 x9_1).f1) x12_3)).f2))).setCell ⟨gb262, 3, none⟩ (.int .i64 ((rd_T37 t246 (rd ((rd_T44 l0_1 x9_1).f1) x12_3)).f3)))).cell? _ = some _ from hx266_0))
                        (try have hy266_1 := fun (n_ : Nat) => (show ((((((w43.drewN n_).setCell ⟨gb262, 0, none⟩ (.int .i64 ((rd_T37 t246 (rd ((rd_T44 l0_1 x9_1).f1) x12_3)).f0))).setCell ⟨gb262, 1, none⟩ (.int .i64 ((rd_T37 t246 (rd ((rd_T44 l0_1 x9_1).f1) x12_3)).f1))).setCell ⟨gb262, 2, none⟩ (.int .i64 ((rd_T37 t246 (rd ((rd_T44 l0_1 x9_1).f1) x12_3)).f2))).setCell ⟨gb262, 3, none⟩ (.int .i64 ((rd_T37 t246 (rd ((rd_T44 l0_1 x9_1).f1) x12_3)).f3)))).cell? _ = some _ from hx266_1))
                        (try have hy266_2 := fun (n_ : Nat) => (show ((((((w43.drewN n_).setCell ⟨gb262, 0, none⟩ (.int .i64 ((rd_T37 t246 (rd ((rd_T44 l0_1 x9_1).f1) x12_3)).f0))).setCell ⟨gb262, 1, none⟩ (.int .i64 ((rd_T37 t246 (rd ((rd_T44 l0_1 x9_1).f1) x12_3)).f1))).setCell ⟨gb262, 2, none⟩ (.int .i64 ((rd_T37 t246 (rd ((rd_T44 l0_1 x9_1).f1) x12_3)).f2))).setCell ⟨gb262, 3, none⟩ (.int .i64 ((rd_T37 t246 (rd ((rd_T44 l0_1 x9_1).f1) x12_3)).f3)))).cell? _ = some _ from hx266_2))
                        (try have hy266_3 := fun (n_ : Nat) => (show ((((((w43.drewN n_).setCell ⟨gb262, 0, none⟩ (.int .i64 ((rd_T37 t246 (rd ((rd_T44 l0_1 x9_1).f1) x12_3)).f0))).setCell ⟨gb262, 1, none⟩ (.int .i64 ((rd_T37 t246 (rd ((rd_T44 l0_1 x9_1).f1) x12_3)).f1))).setCell ⟨gb262, 2, none⟩ (.int .i64 ((rd_T37 t246 (rd ((rd_T44 l0_1 x9_1).f1) x12_3)).f2))).setCell ⟨gb262, 3, none⟩ (.int .i64 ((rd_T37 t246 (rd ((rd_T44 l0_1 x9_1).f1) x12_3)).f3)))).cell? _ = some _ from hx266_3))
                        (try have hy266_4 := fun (n_ : Nat) => (show ((((((w43.drewN n_).setCell ⟨gb262, 0, none⟩ (.int .i64 ((rd_T37 t246 (rd ((rd_T44 l0_1 x9_1).f1) x12_3)).f0))).setCell ⟨gb262, 1, none⟩ (.int .i64 ((rd_T37 t246 (rd ((rd_T44 l0_1 x9_1).f1) x12_3)).f1))).setCell ⟨gb262, 2, none⟩ (.int .i64 ((rd_T37 t246 (rd ((rd_T44 l0_1 x9_1).f1) x12_3)).f2))).setCell ⟨gb262, 3, none⟩ (.int .i64 ((rd_T37 t246 (rd ((rd_T44 l0_1 x9_1).f1) x12_3)).f3)))).cell? _ = some _ from hx266_4))
                        (try have hy266_5 := fun (n_ : Nat) => (show ((((((w43.drewN n_).setCell ⟨gb262, 0, none⟩ (.int .i64 ((rd_T37 t246 (rd ((rd_T44 l0_1 x9_1).f1) x12_3)).f0))).setCell ⟨gb262, 1, none⟩ (.int .i64 ((rd_T37 t246 (rd ((rd_T44 l0_1 x9_1).f1) x12_3)).f1))).setCell ⟨gb262, 2, none⟩ (.int .i64 ((rd_T37 t246 (rd ((rd_T44 l0_1 x9_1).f1) x12_3)).f2))).setCell ⟨gb262, 3, none⟩ (.int .i64 ((rd_T37 t246 (rd ((rd_T44 l0_1 x9_1).f1) x12_3)).f3)))).cell? _ = some _ from hx266_5))
                        (try have hy266_6 := fun (n_ : Nat) => (show ((((((w43.drewN n_).setCell ⟨gb262, 0, none⟩ (.int .i64 ((rd_T37 t246 (rd ((rd_T44 l0_1 x9_1).f1) x12_3)).f0))).setCell ⟨gb262, 1, none⟩ (.int .i64 ((rd_T37 t246 (rd ((rd_T44 l0_1 x9_1).f1) x12_3)).f1))).setCell ⟨gb262, 2, none⟩ (.int .i64 ((rd_T37 t246 (rd ((rd_T44 l0_1 x9_1).f1) x12_3)).f2))).setCell ⟨gb262, 3, none⟩ (.int .i64 ((rd_T37 t246 (rd ((rd_T44 l0_1 x9_1).f1) x12_3)).f3)))).cell? _ = some _ from hx266_6))
                        (try have hy266_7 := fun (n_ : Nat) => (show ((((((w43.drewN n_).setCell ⟨gb262, 0, none⟩ (.int .i64 ((rd_T37 t246 (rd ((rd_T44 l0_1 x9_1).f1) x12_3)).f0))).setCell ⟨gb262, 1, none⟩ (.int .i64 ((rd_T37 t246 (rd ((rd_T44 l0_1 x9_1).f1) x12_3)).f1))).setCell ⟨gb262, 2, none⟩ (.int .i64 ((rd_T37 t246 (rd ((rd_T44 l0_1 x9_1).f1) x12_3)).f2))).setCell ⟨gb262, 3, none⟩ (.int .i64 ((rd_T37 t246 (rd ((rd_T44 l0_1 x9_1).f1) x12_3)).f3)))).cell? _ = some _ from hx266_7))
                        (try have hy266_8 := fun (n_ : Nat) => (show ((((((w43.drewN n_).setCell ⟨gb262, 0, none⟩ (.int .i64 ((rd_T37 t246 (rd ((rd_T44 l0_1 x9_1).f1) x12_3)).f0))).setCell ⟨gb262, 1, none⟩ (.int .i64 ((rd_T37 t246 (rd ((rd_T44 l0_1 x9_1).f1) x12_3)).f1))).setCell ⟨gb262, 2, none⟩ (.int .i64 ((rd_T37 t246 (rd ((rd_T44 l0_1 x9_1).f1) x12_3)).f2))).setCell ⟨gb262, 3, none⟩ (.int .i64 ((rd_T37 t246 (rd ((rd_T44 l0_1 x9_1).f1) x12_3)).f3)))).cell? _ = some _ from hx266_8))
                        (try have hy266_9 := fun (n_ : Nat) => (show ((((((w43.drewN n_).setCell ⟨gb262, 0, none⟩ (.int .i64 ((rd_T37 t246 (rd ((rd_T44 l0_1 x9_1).f1) x12_3)).f0))).setCell ⟨gb262, 1, none⟩ (.int .i64 ((rd_T37 t246 (rd ((rd_T44 l0_1 x9_1).f1) x12_3)).f1))).setCell ⟨gb262, 2, none⟩ (.int .i64 ((rd_T37 t246 (rd ((rd_T44 l0_1 x9_1).f1) x12_3)).f2))).setCell ⟨gb262, 3, none⟩ (.int .i64 ((rd_T37 t246 (rd ((rd_T44 l0_1 x9_1).f1) x12_3)).f3)))).cell? _ = some _ from hx266_9))
                        (try have hy266_10 := fun (n_ : Nat) => (show ((((((w43.drewN n_).setCell ⟨gb262, 0, none⟩ (.int .i64 ((rd_T37 t246 (rd ((rd_T44 l0_1 x9_1).f1) x12_3)).f0))).setCell ⟨gb262, 1, none⟩ (.int .i64 ((rd_T37 t246 (rd ((rd_T44 l0_1 x9_1).f1) x12_3)).f1))).setCell ⟨gb262, 2, none⟩ (.int .i64 ((rd_T37 t246 (rd ((rd_T44 l0_1 x9_1).f1) x12_3)).f2))).setCell ⟨gb262, 3, none⟩ (.int .i64 ((rd_T37 t246 (rd ((rd_T44 l0_1 x9_1).f1) x12_3)).f3)))).cell? _ = some _ from hx266_10))
                        (try have hy266_11 := fun (n_ : Nat) => (show ((((((w43.drewN n_).setCell ⟨gb262, 0, none⟩ (.int .i64 ((rd_T37 t246 (rd ((rd_T44 l0_1 x9_1).f1) x12_3)).f0))).setCell ⟨gb262, 1, none⟩ (.int .i64 ((rd_T37 t246 (rd ((rd_T44 l0_1 x9_1).f1) x12_3)).f1))).setCell ⟨gb262, 2, none⟩ (.int .i64 ((rd_T37 t246 (rd ((rd_T44 l0_1 x9_1).f1) x12_3)).f2))).setCell ⟨gb262, 3, none⟩ (.int .i64 ((rd_T37 t246 (rd ((rd_T44 l0_1 x9_1).f1) x12_3)).f3)))).cell? _ = some _ from hx266_11))
                        (try have hy266_12 := fun (n_ : Nat) => (show ((((((w43.drewN n_).setCell ⟨gb262, 0, none⟩ (.int .i64 ((rd_T37 t246 (rd ((rd_T44 l0_1 x9_1).f1) x12_3)).f0))).setCell ⟨gb262, 1, none⟩ (.int .i64 ((rd_T37 t246 (rd ((rd_T44 l0_1 x9_1).f1) x12_3)).f1))).setCell ⟨gb262, 2, none⟩ (.int .i64 ((rd_T37 t246 (rd ((rd_T44 l0_1 x9_1).f1) x12_3)).f2))).setCell ⟨gb262, 3, none⟩ (.int .i64 ((rd_T37 t246 (rd ((rd_T44 l0_1 x9_1).f1) x12_3)).f3)))).cell? _ = some _ from hx266_12))
                        (try have hy266_13 := fun (n_ : Nat) => (show ((((((w43.drewN n_).setCell ⟨gb262, 0, none⟩ (.int .i64 ((rd_T37 t246 (rd ((rd_T44 l0_1 x9_1).f1) x12_3)).f0))).setCell ⟨gb262, 1, none⟩ (.int .i64 ((rd_T37 t246 (rd ((rd_T44 l0_1 x9_1).f1) x12_3)).f1))).setCell ⟨gb262, 2, none⟩ (.int .i64 ((rd_T37 t246 (rd ((rd_T44 l0_1 x9_1).f1) x12_3)).f2))).setCell ⟨gb262, 3, none⟩ (.int .i64 ((rd_T37 t246 (rd ((rd_T44 l0_1 x9_1).f1) x12_3)).f3)))).cell? _ = some _ from hx266_13))
                        (try have hy266_14 := fun (n_ : Nat) => (show ((((((w43.drewN n_).setCell ⟨gb262, 0, none⟩ (.int .i64 ((rd_T37 t246 (rd ((rd_T44 l0_1 x9_1).f1) x12_3)).f0))).setCell ⟨gb262, 1, none⟩ (.int .i64 ((rd_T37 t246 (rd ((rd_T44 l0_1 x9_1).f1) x12_3)).f1))).setCell ⟨gb262, 2, none⟩ (.int .i64 ((rd_T37 t246 (rd ((rd_T44 l0_1 x9_1).f1) x12_3)).f2))).setCell ⟨gb262, 3, none⟩ (.int .i64 ((rd_T37 t246 (rd ((rd_T44 l0_1 x9_1).f1) x12_3)).f3)))).cell? _ = some _ from hx266_14))
                        (try have hy266_15 := fun (n_ : Nat) => (show ((((((w43.drewN n_).setCell ⟨gb262, 0, none⟩ (.int .i64 ((rd_T37 t246 (rd ((rd_T44 l0_1 x9_1).f1) x12_3)).f0))).setCell ⟨gb262, 1, none⟩ (.int .i64 ((rd_T37 t246 (rd ((rd_T44 l0_1 x9_1).f1) x12_3)).f1))).setCell ⟨gb262, 2, none⟩ (.int .i64 ((rd_T37 t246 (rd ((rd_T44 l0_1 x9_1).f1) x12_3)).f2))).setCell ⟨gb262, 3, none⟩ (.int .i64 ((rd_T37 t246 (rd ((rd_T44 l0_1 x9_1).f1) x12_3)).f3)))).cell? _ = some _ from hx266_15))
                        clear hn266_0
                        clear hn266_1
                        clear hn266_2
                        clear hn266_3
                        replace p266 := eq_true p266
                        replace q266 := eq_true q266
                        go_wp2
                        repeat (go_quiet (fail); try go_wp2)
                        go_meet
                        case rel => exact ⟨_, ((x12_3 == 0)), (by first | rfl | (simp; done) | (simp [*]; done)), H', ⟨by have := HK1.out; have := HJ21.out; have := HK3.out; first | omega | exact Nat.le_refl _⟩, ⟨by (with_reducible repeat (first | apply Kd.R_alloc | apply Kd.R_drewN | apply Kd.R_drew)); exact Kd.R_mono (Kd.R_far (p := ⟨gb262, 3, none⟩) (Kd.R_far (p := ⟨gb262, 2, none⟩) (Kd.R_far (p := ⟨gb262, 1, none⟩) (Kd.R_far (p := ⟨gb262, 0, none⟩) (Kd.R_mono HO_6.out (fun k_ hk => (⟨hk, hk.2⟩ : _ ∧ k_ ≠ gb262))) (fun _ hk => hk.2) (.int .i64 ((rd_T37 t246 (rd ((rd_T44 l0_1 x9_1).f1) x12_3)).f0))) (fun _ hk => hk.2) (.int .i64 ((rd_T37 t246 (rd ((rd_T44 l0_1 x9_1).f1) x12_3)).f1))) (fun _ hk => hk.2) (.int .i64 ((rd_T37 t246 (rd ((rd_T44 l0_1 x9_1).f1) x12_3)).f2))) (fun _ hk => hk.2) (.int .i64 ((rd_T37 t246 (rd ((rd_T44 l0_1 x9_1).f1) x12_3)).f3))) (fun _ hk => hk.1.2)⟩, ⟨by (with_reducible repeat (first | refine blk_drewN ?_ _ | refine blk_drew ?_ | refine blk_alloc ?_ _)); refine blk_far ?_ NB242_262.out _; (with_reducible repeat (first | refine blk_drewN ?_ _ | refine blk_drew ?_ | refine blk_alloc ?_ _)); refine blk_far ?_ NB242_262.out _; (with_reducible repeat (first | refine blk_drewN ?_ _ | refine blk_drew ?_ | refine blk_alloc ?_ _)); refine blk_far ?_ NB242_262.out _; (with_reducible repeat (first | refine blk_drewN ?_ _ | refine blk_drew ?_ | refine blk_alloc ?_ _)); refine blk_far ?_ NB242_262.out _; (with_reducible repeat (first | refine blk_drewN ?_ _ | refine blk_drew ?_ | refine blk_alloc ?_ _)); exact BK242.out⟩, ⟨by (with_reducible repeat (first | refine blk_drewN ?_ _ | refine blk_drew ?_ | refine blk_alloc ?_ _)); refine blk_far ?_ NB243_262.out _; (with_reducible repeat (first | refine blk_drewN ?_ _ | refine blk_drew ?_ | refine blk_alloc ?_ _)); refine blk_far ?_ NB243_262.out _; (with_reducible repeat (first | refine blk_drewN ?_ _ | refine blk_drew ?_ | refine blk_alloc ?_ _)); refine blk_far ?_ NB243_262.out _; (with_reducible repeat (first | refine blk_drewN ?_ _ | refine blk_drew ?_ | refine blk_alloc ?_ _)); refine blk_far ?_ NB243_262.out _; (with_reducible repeat (first | refine blk_drewN ?_ _ | refine blk_drew ?_ | refine blk_alloc ?_ _)); exact BK243.out⟩, ⟨by (with_reducible repeat (first | refine blk_drewN ?_ _ | refine blk_drew ?_ | refine blk_alloc ?_ _)); refine blk_put (cs := #[.int .i64 ((rd_T37 t246 (rd ((rd_T44 l0_1 x9_1).f1) x12_3)).f0), .int .i64 ((rd_T37 t246 (rd ((rd_T44 l0_1 x9_1).f1) x12_3)).f1), .int .i64 ((rd_T37 t246 (rd ((rd_T44 l0_1 x9_1).f1) x12_3)).f2), .int .i64 0]) ?_ 3 _ rfl; (with_reducible repeat (first | refine blk_drewN ?_ _ | refine blk_drew ?_ | refine blk_alloc ?_ _)); refine blk_put (cs := #[.int .i64 ((rd_T37 t246 (rd ((rd_T44 l0_1 x9_1).f1) x12_3)).f0), .int .i64 ((rd_T37 t246 (rd ((rd_T44 l0_1 x9_1).f1) x12_3)).f1), .int .i64 0, .int .i64 0]) ?_ 2 _ rfl; (with_reducible repeat (first | refine blk_drewN ?_ _ | refine blk_drew ?_ | refine blk_alloc ?_ _)); refine blk_put (cs := #[.int .i64 ((rd_T37 t246 (rd ((rd_T44 l0_1 x9_1).f1) x12_3)).f0), .int .i64 0, .int .i64 0, .int .i64 0]) ?_ 1 _ rfl; (with_reducible repeat (first | refine blk_drewN ?_ _ | refine blk_drew ?_ | refine blk_alloc ?_ _)); refine blk_put (cs := #[.int .i64 0, .int .i64 0, .int .i64 0, .int .i64 0]) ?_ 0 _ rfl; (with_reducible repeat (first | refine blk_drewN ?_ _ | refine blk_drew ?_ | refine blk_alloc ?_ _)); exact BK262.out⟩, ⟨by repeat (first | (with_reducible first | exact HB.out | apply below_alloc | apply pw_below_drewN | apply below_drew1 | refine below_set ?_ GE242.out | refine below_set ?_ GE243.out | refine below_set ?_ GE262.out) | exact HB.out)⟩⟩
                       ·
                        rw [if_neg c51] at H
                        have c51b0 : (((rd_T44 l0_1 x9_1).f0) == 7) = false := beq_eq_false_iff_ne.mpr c51
                        have c51b1 : (((rd_T44 l0_1 x9_1).f0) != 7) = true := bne_iff_ne.mpr c51
                        exact absurd H (by cases k3 <;> simp [erratalaw20_BoundsPaths.j3])
                      ·
                       rw [if_neg c50] at H
                       have c50b0 : decide (((rd_T37 t246 x9_1).f2) < ((rd_T37 t246 (rd ((rd_T44 l0_1 x9_1).f1) x12_3)).f2)) = false := decide_eq_false c50
                       clear c50
                       have H' := Aside0.mk H
                       clear H
                       have p263 : 0 ≤ (x9_1 : Int) := of_decide_eq_true (by first | (with_reducible assumption) | assumption)
                       have q263 : x9_1 < (t246.length : Int) := of_decide_eq_true (by first | (with_reducible assumption) | assumption)
                       obtain ⟨ad263, e263, hx263_0, hx263_1, hx263_2, hx263_3⟩ := at_T37 (Kd.R_reads' HO_6.out).2.2 x9_1 p263 q263
                       obtain rfl : ad261 = ad263 := (by injection e263)
                       have hn263_0 : ad261.block ≠ gb262 := Kd.own_blk (Kd.R_away HO_6.out (fun _ hk => hk.2))
                       have hn263_1 : ad261.block ≠ gb262 := Kd.own_blk (Kd.R_away HO_6.out (fun _ hk => hk.2))
                       have hn263_2 : ad261.block ≠ gb262 := Kd.own_blk (Kd.R_away HO_6.out (fun _ hk => hk.2))
                       have hn263_3 : ad261.block ≠ gb262 := Kd.own_blk (Kd.R_away HO_6.out (fun _ hk => hk.2))
                       replace hx263_0 := (cell_far (p := ⟨gb262, 0, none⟩) (by first | exact far_add hn263_0 | exact hn263_0) (.int .i64 ((rd_T37 t246 (rd ((rd_T44 l0_1 x9_1).f1) x12_3)).f0))).trans hx263_0
                       replace hx263_1 := (cell_far (p := ⟨gb262, 0, none⟩) (by first | exact far_add hn263_0 | exact hn263_0) (.int .i64 ((rd_T37 t246 (rd ((rd_T44 l0_1 x9_1).f1) x12_3)).f0))).trans hx263_1
                       replace hx263_2 := (cell_far (p := ⟨gb262, 0, none⟩) (by first | exact far_add hn263_0 | exact hn263_0) (.int .i64 ((rd_T37 t246 (rd ((rd_T44 l0_1 x9_1).f1) x12_3)).f0))).trans hx263_2
                       replace hx263_3 := (cell_far (p := ⟨gb262, 0, none⟩) (by first | exact far_add hn263_0 | exact hn263_0) (.int .i64 ((rd_T37 t246 (rd ((rd_T44 l0_1 x9_1).f1) x12_3)).f0))).trans hx263_3
                       replace hx263_0 := (cell_far (p := ⟨gb262, 1, none⟩) (by first | exact far_add hn263_1 | exact hn263_1) (.int .i64 ((rd_T37 t246 (rd ((rd_T44 l0_1 x9_1).f1) x12_3)).f1))).trans hx263_0
                       replace hx263_1 := (cell_far (p := ⟨gb262, 1, none⟩) (by first | exact far_add hn263_1 | exact hn263_1) (.int .i64 ((rd_T37 t246 (rd ((rd_T44 l0_1 x9_1).f1) x12_3)).f1))).trans hx263_1
                       replace hx263_2 := (cell_far (p := ⟨gb262, 1, none⟩) (by first | exact far_add hn263_1 | exact hn263_1) (.int .i64 ((rd_T37 t246 (rd ((rd_T44 l0_1 x9_1).f1) x12_3)).f1))).trans hx263_2
                       replace hx263_3 := (cell_far (p := ⟨gb262, 1, none⟩) (by first | exact far_add hn263_1 | exact hn263_1) (.int .i64 ((rd_T37 t246 (rd ((rd_T44 l0_1 x9_1).f1) x12_3)).f1))).trans hx263_3
                       replace hx263_0 := (cell_far (p := ⟨gb262, 2, none⟩) (by first | exact far_add hn263_2 | exact hn263_2) (.int .i64 ((rd_T37 t246 (rd ((rd_T44 l0_1 x9_1).f1) x12_3)).f2))).trans hx263_0
                       replace hx263_1 := (cell_far (p := ⟨gb262, 2, none⟩) (by first | exact far_add hn263_2 | exact hn263_2) (.int .i64 ((rd_T37 t246 (rd ((rd_T44 l0_1 x9_1).f1) x12_3)).f2))).trans hx263_1
                       replace hx263_2 := (cell_far (p := ⟨gb262, 2, none⟩) (by first | exact far_add hn263_2 | exact hn263_2) (.int .i64 ((rd_T37 t246 (rd ((rd_T44 l0_1 x9_1).f1) x12_3)).f2))).trans hx263_2
                       replace hx263_3 := (cell_far (p := ⟨gb262, 2, none⟩) (by first | exact far_add hn263_2 | exact hn263_2) (.int .i64 ((rd_T37 t246 (rd ((rd_T44 l0_1 x9_1).f1) x12_3)).f2))).trans hx263_3
                       replace hx263_0 := (cell_far (p := ⟨gb262, 3, none⟩) (by first | exact far_add hn263_3 | exact hn263_3) (.int .i64 ((rd_T37 t246 (rd ((rd_T44 l0_1 x9_1).f1) x12_3)).f3))).trans hx263_0
                       replace hx263_1 := (cell_far (p := ⟨gb262, 3, none⟩) (by first | exact far_add hn263_3 | exact hn263_3) (.int .i64 ((rd_T37 t246 (rd ((rd_T44 l0_1 x9_1).f1) x12_3)).f3))).trans hx263_1
                       replace hx263_2 := (cell_far (p := ⟨gb262, 3, none⟩) (by first | exact far_add hn263_3 | exact hn263_3) (.int .i64 ((rd_T37 t246 (rd ((rd_T44 l0_1 x9_1).f1) x12_3)).f3))).trans hx263_2
                       replace hx263_3 := (cell_far (p := ⟨gb262, 3, none⟩) (by first | exact far_add hn263_3 | exact hn263_3) (.int .i64 ((rd_T37 t246 (rd ((rd_T44 l0_1 x9_1).f1) x12_3)).f3))).trans hx263_3
                       (try have hy263_0 := fun (n_ : Nat) => (show ((((((w43.drewN n_).setCell ⟨gb262, 0, none⟩ (.int .i64 ((rd_T37 t246 (rd ((rd_T44 l0_1 x9_1).f1) x12_3)).f0))).setCell ⟨gb262, 1, none⟩ (.int .i64 ((rd_T37 t246 (rd ((rd_T44 l0_1 x9_1).f1) x12_3)).f1))).setCell ⟨gb262, 2, none⟩ (.int .i64 ((rd_T37 t246 (rd ((rd_T44 l0_1 x9_1).f1) x12_3)).f2))).setCell ⟨gb262, 3, none⟩ (.int .i64 ((rd_T37 t246 (rd ((rd_T44 l0_1 x9_1).f1) x12_3)).f3)))).cell? _ = some _ from hx263_0))
                       (try have hy263_1 := fun (n_ : Nat) => (show ((((((w43.drewN n_).setCell ⟨gb262, 0, none⟩ (.int .i64 ((rd_T37 t246 (rd ((rd_T44 l0_1 x9_1).f1) x12_3)).f0))).setCell ⟨gb262, 1, none⟩ (.int .i64 ((rd_T37 t246 (rd ((rd_T44 l0_1 x9_1).f1) x12_3)).f1))).setCell ⟨gb262, 2, none⟩ (.int .i64 ((rd_T37 t246 (rd ((rd_T44 l0_1 x9_1).f1) x12_3)).f2))).setCell ⟨gb262, 3, none⟩ (.int .i64 ((rd_T37 t246 (rd ((rd_T44 l0_1 x9_1).f1) x12_3)).f3)))).cell? _ = some _ from hx263_1))
                       (try have hy263_2 := fun (n_ : Nat) => (show ((((((w43.drewN n_).setCell ⟨gb262, 0, none⟩ (.int .i64 ((rd_T37 t246 (rd ((rd_T44 l0_1 x9_1).f1) x12_3)).f0))).setCell ⟨gb262, 1, none⟩ (.int .i64 ((rd_T37 t246 (rd ((rd_T44 l0_1 x9_1).f1) x12_3)).f1))).setCell ⟨gb262, 2, none⟩ (.int .i64 ((rd_T37 t246 (rd ((rd_T44 l0_1 x9_1).f1) x12_3)).f2))).setCell ⟨gb262, 3, none⟩ (.int .i64 ((rd_T37 t246 (rd ((rd_T44 l0_1 x9_1).f1) x12_3)).f3)))).cell? _ = some _ from hx263_2))
                       (try have hy263_3 := fun (n_ : Nat) => (show ((((((w43.drewN n_).setCell ⟨gb262, 0, none⟩ (.int .i64 ((rd_T37 t246 (rd ((rd_T44 l0_1 x9_1).f1) x12_3)).f0))).setCell ⟨gb262, 1, none⟩ (.int .i64 ((rd_T37 t246 (rd ((rd_T44 l0_1 x9_1).f1) x12_3)).f1))).setCell ⟨gb262, 2, none⟩ (.int .i64 ((rd_T37 t246 (rd ((rd_T44 l0_1 x9_1).f1) x12_3)).f2))).setCell ⟨gb262, 3, none⟩ (.int .i64 ((rd_T37 t246 (rd ((rd_T44 l0_1 x9_1).f1) x12_3)).f3)))).cell? _ = some _ from hx263_3))
                       clear hn263_0
                       clear hn263_1
                       clear hn263_2
                       clear hn263_3
                       replace p263 := eq_true p263
                       replace q263 := eq_true q263
                       have hnb57 := NB262_242.out
                       have hnc57 := NB242_262.out
                       have hnb58 := NB262_243.out
                       have hnc58 := NB243_262.out
                       obtain ⟨hcz59_0, hcz59_1, hcz59_2, hcz59_3, hfz59_0, hfz59_1, hfz59_2, hfz59_3⟩ := blk4 BK262.out
                       have p264 : 0 ≤ (x9_1 : Int) := of_decide_eq_true (by first | (with_reducible assumption) | assumption)
                       have q264 : x9_1 < (t246.length : Int) := of_decide_eq_true (by first | (with_reducible assumption) | assumption)
                       obtain ⟨ad264, e264, hx264_0, hx264_1, hx264_2, hx264_3⟩ := at_T37 (Kd.R_reads' HO_6.out).2.2 x9_1 p264 q264
                       obtain rfl : ad261 = ad264 := (by injection e264)
                       have hn264_0 : ad261.block ≠ gb262 := Kd.own_blk (Kd.R_away HO_6.out (fun _ hk => hk.2))
                       have hn264_1 : ad261.block ≠ gb262 := Kd.own_blk (Kd.R_away HO_6.out (fun _ hk => hk.2))
                       have hn264_2 : ad261.block ≠ gb262 := Kd.own_blk (Kd.R_away HO_6.out (fun _ hk => hk.2))
                       have hn264_3 : ad261.block ≠ gb262 := Kd.own_blk (Kd.R_away HO_6.out (fun _ hk => hk.2))
                       replace hx264_0 := (cell_far (p := ⟨gb262, 0, none⟩) (by first | exact far_add hn264_0 | exact hn264_0) (.int .i64 ((rd_T37 t246 (rd ((rd_T44 l0_1 x9_1).f1) x12_3)).f0))).trans hx264_0
                       replace hx264_1 := (cell_far (p := ⟨gb262, 0, none⟩) (by first | exact far_add hn264_0 | exact hn264_0) (.int .i64 ((rd_T37 t246 (rd ((rd_T44 l0_1 x9_1).f1) x12_3)).f0))).trans hx264_1
                       replace hx264_2 := (cell_far (p := ⟨gb262, 0, none⟩) (by first | exact far_add hn264_0 | exact hn264_0) (.int .i64 ((rd_T37 t246 (rd ((rd_T44 l0_1 x9_1).f1) x12_3)).f0))).trans hx264_2
                       replace hx264_3 := (cell_far (p := ⟨gb262, 0, none⟩) (by first | exact far_add hn264_0 | exact hn264_0) (.int .i64 ((rd_T37 t246 (rd ((rd_T44 l0_1 x9_1).f1) x12_3)).f0))).trans hx264_3
                       replace hx264_0 := (cell_far (p := ⟨gb262, 1, none⟩) (by first | exact far_add hn264_1 | exact hn264_1) (.int .i64 ((rd_T37 t246 (rd ((rd_T44 l0_1 x9_1).f1) x12_3)).f1))).trans hx264_0
                       replace hx264_1 := (cell_far (p := ⟨gb262, 1, none⟩) (by first | exact far_add hn264_1 | exact hn264_1) (.int .i64 ((rd_T37 t246 (rd ((rd_T44 l0_1 x9_1).f1) x12_3)).f1))).trans hx264_1
                       replace hx264_2 := (cell_far (p := ⟨gb262, 1, none⟩) (by first | exact far_add hn264_1 | exact hn264_1) (.int .i64 ((rd_T37 t246 (rd ((rd_T44 l0_1 x9_1).f1) x12_3)).f1))).trans hx264_2
                       replace hx264_3 := (cell_far (p := ⟨gb262, 1, none⟩) (by first | exact far_add hn264_1 | exact hn264_1) (.int .i64 ((rd_T37 t246 (rd ((rd_T44 l0_1 x9_1).f1) x12_3)).f1))).trans hx264_3
                       replace hx264_0 := (cell_far (p := ⟨gb262, 2, none⟩) (by first | exact far_add hn264_2 | exact hn264_2) (.int .i64 ((rd_T37 t246 (rd ((rd_T44 l0_1 x9_1).f1) x12_3)).f2))).trans hx264_0
                       replace hx264_1 := (cell_far (p := ⟨gb262, 2, none⟩) (by first | exact far_add hn264_2 | exact hn264_2) (.int .i64 ((rd_T37 t246 (rd ((rd_T44 l0_1 x9_1).f1) x12_3)).f2))).trans hx264_1
                       replace hx264_2 := (cell_far (p := ⟨gb262, 2, none⟩) (by first | exact far_add hn264_2 | exact hn264_2) (.int .i64 ((rd_T37 t246 (rd ((rd_T44 l0_1 x9_1).f1) x12_3)).f2))).trans hx264_2
                       replace hx264_3 := (cell_far (p := ⟨gb262, 2, none⟩) (by first | exact far_add hn264_2 | exact hn264_2) (.int .i64 ((rd_T37 t246 (rd ((rd_T44 l0_1 x9_1).f1) x12_3)).f2))).trans hx264_3
                       replace hx264_0 := (cell_far (p := ⟨gb262, 3, none⟩) (by first | exact far_add hn264_3 | exact hn264_3) (.int .i64 ((rd_T37 t246 (rd ((rd_T44 l0_1 x9_1).f1) x12_3)).f3))).trans hx264_0
                       replace hx264_1 := (cell_far (p := ⟨gb262, 3, none⟩) (by first | exact far_add hn264_3 | exact hn264_3) (.int .i64 ((rd_T37 t246 (rd ((rd_T44 l0_1 x9_1).f1) x12_3)).f3))).trans hx264_1
                       replace hx264_2 := (cell_far (p := ⟨gb262, 3, none⟩) (by first | exact far_add hn264_3 | exact hn264_3) (.int .i64 ((rd_T37 t246 (rd ((rd_T44 l0_1 x9_1).f1) x12_3)).f3))).trans hx264_2
                       replace hx264_3 := (cell_far (p := ⟨gb262, 3, none⟩) (by first | exact far_add hn264_3 | exact hn264_3) (.int .i64 ((rd_T37 t246 (rd ((rd_T44 l0_1 x9_1).f1) x12_3)).f3))).trans hx264_3
                       (try have hy264_0 := fun (n_ : Nat) => (show ((((((w43.drewN n_).setCell ⟨gb262, 0, none⟩ (.int .i64 ((rd_T37 t246 (rd ((rd_T44 l0_1 x9_1).f1) x12_3)).f0))).setCell ⟨gb262, 1, none⟩ (.int .i64 ((rd_T37 t246 (rd ((rd_T44 l0_1 x9_1).f1) x12_3)).f1))).setCell ⟨gb262, 2, none⟩ (.int .i64 ((rd_T37 t246 (rd ((rd_T44 l0_1 x9_1).f1) x12_3)).f2))).setCell ⟨gb262, 3, none⟩ (.int .i64 ((rd_T37 t246 (rd ((rd_T44 l0_1 x9_1).f1) x12_3)).f3)))).cell? _ = some _ from hx264_0))
                       (try have hy264_1 := fun (n_ : Nat) => (show ((((((w43.drewN n_).setCell ⟨gb262, 0, none⟩ (.int .i64 ((rd_T37 t246 (rd ((rd_T44 l0_1 x9_1).f1) x12_3)).f0))).setCell ⟨gb262, 1, none⟩ (.int .i64 ((rd_T37 t246 (rd ((rd_T44 l0_1 x9_1).f1) x12_3)).f1))).setCell ⟨gb262, 2, none⟩ (.int .i64 ((rd_T37 t246 (rd ((rd_T44 l0_1 x9_1).f1) x12_3)).f2))).setCell ⟨gb262, 3, none⟩ (.int .i64 ((rd_T37 t246 (rd ((rd_T44 l0_1 x9_1).f1) x12_3)).f3)))).cell? _ = some _ from hx264_1))
                       (try have hy264_2 := fun (n_ : Nat) => (show ((((((w43.drewN n_).setCell ⟨gb262, 0, none⟩ (.int .i64 ((rd_T37 t246 (rd ((rd_T44 l0_1 x9_1).f1) x12_3)).f0))).setCell ⟨gb262, 1, none⟩ (.int .i64 ((rd_T37 t246 (rd ((rd_T44 l0_1 x9_1).f1) x12_3)).f1))).setCell ⟨gb262, 2, none⟩ (.int .i64 ((rd_T37 t246 (rd ((rd_T44 l0_1 x9_1).f1) x12_3)).f2))).setCell ⟨gb262, 3, none⟩ (.int .i64 ((rd_T37 t246 (rd ((rd_T44 l0_1 x9_1).f1) x12_3)).f3)))).cell? _ = some _ from hx264_2))
                       (try have hy264_3 := fun (n_ : Nat) => (show ((((((w43.drewN n_).setCell ⟨gb262, 0, none⟩ (.int .i64 ((rd_T37 t246 (rd ((rd_T44 l0_1 x9_1).f1) x12_3)).f0))).setCell ⟨gb262, 1, none⟩ (.int .i64 ((rd_T37 t246 (rd ((rd_T44 l0_1 x9_1).f1) x12_3)).f1))).setCell ⟨gb262, 2, none⟩ (.int .i64 ((rd_T37 t246 (rd ((rd_T44 l0_1 x9_1).f1) x12_3)).f2))).setCell ⟨gb262, 3, none⟩ (.int .i64 ((rd_T37 t246 (rd ((rd_T44 l0_1 x9_1).f1) x12_3)).f3)))).cell? _ = some _ from hx264_3))
                       clear hn264_0
                       clear hn264_1
                       clear hn264_2
                       clear hn264_3
                       replace p264 := eq_true p264
                       replace q264 := eq_true q264
                       have p265 : 0 ≤ (x9_1 : Int) := of_decide_eq_true (by first | (with_reducible assumption) | assumption)
                       have q265 : x9_1 < (t246.length : Int) := of_decide_eq_true (by first | (with_reducible assumption) | assumption)
                       obtain ⟨ad265, e265, hx265_0, hx265_1, hx265_2, hx265_3⟩ := at_T37 (Kd.R_reads' HO_6.out).2.2 x9_1 p265 q265
                       obtain rfl : ad261 = ad265 := (by injection e265)
                       have hn265_0 : ad261.block ≠ gb262 := Kd.own_blk (Kd.R_away HO_6.out (fun _ hk => hk.2))
                       have hn265_1 : ad261.block ≠ gb262 := Kd.own_blk (Kd.R_away HO_6.out (fun _ hk => hk.2))
                       have hn265_2 : ad261.block ≠ gb262 := Kd.own_blk (Kd.R_away HO_6.out (fun _ hk => hk.2))
                       have hn265_3 : ad261.block ≠ gb262 := Kd.own_blk (Kd.R_away HO_6.out (fun _ hk => hk.2))
                       replace hx265_0 := (cell_far (p := ⟨gb262, 0, none⟩) (by first | exact far_add hn265_0 | exact hn265_0) (.int .i64 ((rd_T37 t246 (rd ((rd_T44 l0_1 x9_1).f1) x12_3)).f0))).trans hx265_0
                       replace hx265_1 := (cell_far (p := ⟨gb262, 0, none⟩) (by first | exact far_add hn265_0 | exact hn265_0) (.int .i64 ((rd_T37 t246 (rd ((rd_T44 l0_1 x9_1).f1) x12_3)).f0))).trans hx265_1
                       replace hx265_2 := (cell_far (p := ⟨gb262, 0, none⟩) (by first | exact far_add hn265_0 | exact hn265_0) (.int .i64 ((rd_T37 t246 (rd ((rd_T44 l0_1 x9_1).f1) x12_3)).f0))).trans hx265_2
                       replace hx265_3 := (cell_far (p := ⟨gb262, 0, none⟩) (by first | exact far_add hn265_0 | exact hn265_0) (.int .i64 ((rd_T37 t246 (rd ((rd_T44 l0_1 x9_1).f1) x12_3)).f0))).trans hx265_3
                       replace hx265_0 := (cell_far (p := ⟨gb262, 1, none⟩) (by first | exact far_add hn265_1 | exact hn265_1) (.int .i64 ((rd_T37 t246 (rd ((rd_T44 l0_1 x9_1).f1) x12_3)).f1))).trans hx265_0
                       replace hx265_1 := (cell_far (p := ⟨gb262, 1, none⟩) (by first | exact far_add hn265_1 | exact hn265_1) (.int .i64 ((rd_T37 t246 (rd ((rd_T44 l0_1 x9_1).f1) x12_3)).f1))).trans hx265_1
                       replace hx265_2 := (cell_far (p := ⟨gb262, 1, none⟩) (by first | exact far_add hn265_1 | exact hn265_1) (.int .i64 ((rd_T37 t246 (rd ((rd_T44 l0_1 x9_1).f1) x12_3)).f1))).trans hx265_2
                       replace hx265_3 := (cell_far (p := ⟨gb262, 1, none⟩) (by first | exact far_add hn265_1 | exact hn265_1) (.int .i64 ((rd_T37 t246 (rd ((rd_T44 l0_1 x9_1).f1) x12_3)).f1))).trans hx265_3
                       replace hx265_0 := (cell_far (p := ⟨gb262, 2, none⟩) (by first | exact far_add hn265_2 | exact hn265_2) (.int .i64 ((rd_T37 t246 (rd ((rd_T44 l0_1 x9_1).f1) x12_3)).f2))).trans hx265_0
                       replace hx265_1 := (cell_far (p := ⟨gb262, 2, none⟩) (by first | exact far_add hn265_2 | exact hn265_2) (.int .i64 ((rd_T37 t246 (rd ((rd_T44 l0_1 x9_1).f1) x12_3)).f2))).trans hx265_1
                       replace hx265_2 := (cell_far (p := ⟨gb262, 2, none⟩) (by first | exact far_add hn265_2 | exact hn265_2) (.int .i64 ((rd_T37 t246 (rd ((rd_T44 l0_1 x9_1).f1) x12_3)).f2))).trans hx265_2
                       replace hx265_3 := (cell_far (p := ⟨gb262, 2, none⟩) (by first | exact far_add hn265_2 | exact hn265_2) (.int .i64 ((rd_T37 t246 (rd ((rd_T44 l0_1 x9_1).f1) x12_3)).f2))).trans hx265_3
                       replace hx265_0 := (cell_far (p := ⟨gb262, 3, none⟩) (by first | exact far_add hn265_3 | exact hn265_3) (.int .i64 ((rd_T37 t246 (rd ((rd_T44 l0_1 x9_1).f1) x12_3)).f3))).trans hx265_0
                       replace hx265_1 := (cell_far (p := ⟨gb262, 3, none⟩) (by first | exact far_add hn265_3 | exact hn265_3) (.int .i64 ((rd_T37 t246 (rd ((rd_T44 l0_1 x9_1).f1) x12_3)).f3))).trans hx265_1
                       replace hx265_2 := (cell_far (p := ⟨gb262, 3, none⟩) (by first | exact far_add hn265_3 | exact hn265_3) (.int .i64 ((rd_T37 t246 (rd ((rd_T44 l0_1 x9_1).f1) x12_3)).f3))).trans hx265_2
                       replace hx265_3 := (cell_far (p := ⟨gb262, 3, none⟩) (by first | exact far_add hn265_3 | exact hn265_3) (.int .i64 ((rd_T37 t246 (rd ((rd_T44 l0_1 x9_1).f1) x12_3)).f3))).trans hx265_3
                       (try have hy265_0 := fun (n_ : Nat) => (show ((((((w43.drewN n_).setCell ⟨gb262, 0, none⟩ (.int .i64 ((rd_T37 t246 (rd ((rd_T44 l0_1 x9_1).f1) x12_3)).f0))).setCell ⟨gb262, 1, none⟩ (.int .i64 ((rd_T37 t246 (rd ((rd_T44 l0_1 x9_1).f1) x12_3)).f1))).setCell ⟨gb262, 2, none⟩ (.int .i64 ((rd_T37 t246 (rd ((rd_T44 l0_1 x9_1).f1) x12_3)).f2))).setCell ⟨gb262, 3, none⟩ (.int .i64 ((rd_T37 t246 (rd ((rd_T44 l0_1 x9_1).f1) x12_3)).f3)))).cell? _ = some _ from hx265_0))
                       (try have hy265_1 := fun (n_ : Nat) => (show ((((((w43.drewN n_).setCell ⟨gb262, 0, none⟩ (.int .i64 ((rd_T37 t246 (rd ((rd_T44 l0_1 x9_1).f1) x12_3)).f0))).setCell ⟨gb262, 1, none⟩ (.int .i64 ((rd_T37 t246 (rd ((rd_T44 l0_1 x9_1).f1) x12_3)).f1))).setCell ⟨gb262, 2, none⟩ (.int .i64 ((rd_T37 t246 (rd ((rd_T44 l0_1 x9_1).f1) x12_3)).f2))).setCell ⟨gb262, 3, none⟩ (.int .i64 ((rd_T37 t246 (rd ((rd_T44 l0_1 x9_1).f1) x12_3)).f3)))).cell? _ = some _ from hx265_1))
                       (try have hy265_2 := fun (n_ : Nat) => (show ((((((w43.drewN n_).setCell ⟨gb262, 0, none⟩ (.int .i64 ((rd_T37 t246 (rd ((rd_T44 l0_1 x9_1).f1) x12_3)).f0))).setCell ⟨gb262, 1, none⟩ (.int .i64 ((rd_T37 t246 (rd ((rd_T44 l0_1 x9_1).f1) x12_3)).f1))).setCell ⟨gb262, 2, none⟩ (.int .i64 ((rd_T37 t246 (rd ((rd_T44 l0_1 x9_1).f1) x12_3)).f2))).setCell ⟨gb262, 3, none⟩ (.int .i64 ((rd_T37 t246 (rd ((rd_T44 l0_1 x9_1).f1) x12_3)).f3)))).cell? _ = some _ from hx265_2))
                       (try have hy265_3 := fun (n_ : Nat) => (show ((((((w43.drewN n_).setCell ⟨gb262, 0, none⟩ (.int .i64 ((rd_T37 t246 (rd ((rd_T44 l0_1 x9_1).f1) x12_3)).f0))).setCell ⟨gb262, 1, none⟩ (.int .i64 ((rd_T37 t246 (rd ((rd_T44 l0_1 x9_1).f1) x12_3)).f1))).setCell ⟨gb262, 2, none⟩ (.int .i64 ((rd_T37 t246 (rd ((rd_T44 l0_1 x9_1).f1) x12_3)).f2))).setCell ⟨gb262, 3, none⟩ (.int .i64 ((rd_T37 t246 (rd ((rd_T44 l0_1 x9_1).f1) x12_3)).f3)))).cell? _ = some _ from hx265_3))
                       clear hn265_0
                       clear hn265_1
                       clear hn265_2
                       clear hn265_3
                       replace p265 := eq_true p265
                       replace q265 := eq_true q265
                       go_wp2
                       repeat (go_quiet (fail); try go_wp2)
                       go_meet
                       case rel => exact ⟨_, (false), (by first | rfl | (simp; done) | (simp [*]; done)), H', ⟨by have := HK1.out; have := HJ21.out; have := HK3.out; first | omega | exact Nat.le_refl _⟩, ⟨by (with_reducible repeat (first | apply Kd.R_alloc | apply Kd.R_drewN | apply Kd.R_drew)); exact Kd.R_mono (Kd.R_far (p := ⟨gb262, 3, none⟩) (Kd.R_far (p := ⟨gb262, 2, none⟩) (Kd.R_far (p := ⟨gb262, 1, none⟩) (Kd.R_far (p := ⟨gb262, 0, none⟩) (Kd.R_mono HO_6.out (fun k_ hk => (⟨hk, hk.2⟩ : _ ∧ k_ ≠ gb262))) (fun _ hk => hk.2) (.int .i64 ((rd_T37 t246 (rd ((rd_T44 l0_1 x9_1).f1) x12_3)).f0))) (fun _ hk => hk.2) (.int .i64 ((rd_T37 t246 (rd ((rd_T44 l0_1 x9_1).f1) x12_3)).f1))) (fun _ hk => hk.2) (.int .i64 ((rd_T37 t246 (rd ((rd_T44 l0_1 x9_1).f1) x12_3)).f2))) (fun _ hk => hk.2) (.int .i64 ((rd_T37 t246 (rd ((rd_T44 l0_1 x9_1).f1) x12_3)).f3))) (fun _ hk => hk.1.2)⟩, ⟨by (with_reducible repeat (first | refine blk_drewN ?_ _ | refine blk_drew ?_ | refine blk_alloc ?_ _)); refine blk_far ?_ NB242_262.out _; (with_reducible repeat (first | refine blk_drewN ?_ _ | refine blk_drew ?_ | refine blk_alloc ?_ _)); refine blk_far ?_ NB242_262.out _; (with_reducible repeat (first | refine blk_drewN ?_ _ | refine blk_drew ?_ | refine blk_alloc ?_ _)); refine blk_far ?_ NB242_262.out _; (with_reducible repeat (first | refine blk_drewN ?_ _ | refine blk_drew ?_ | refine blk_alloc ?_ _)); refine blk_far ?_ NB242_262.out _; (with_reducible repeat (first | refine blk_drewN ?_ _ | refine blk_drew ?_ | refine blk_alloc ?_ _)); exact BK242.out⟩, ⟨by (with_reducible repeat (first | refine blk_drewN ?_ _ | refine blk_drew ?_ | refine blk_alloc ?_ _)); refine blk_far ?_ NB243_262.out _; (with_reducible repeat (first | refine blk_drewN ?_ _ | refine blk_drew ?_ | refine blk_alloc ?_ _)); refine blk_far ?_ NB243_262.out _; (with_reducible repeat (first | refine blk_drewN ?_ _ | refine blk_drew ?_ | refine blk_alloc ?_ _)); refine blk_far ?_ NB243_262.out _; (with_reducible repeat (first | refine blk_drewN ?_ _ | refine blk_drew ?_ | refine blk_alloc ?_ _)); refine blk_far ?_ NB243_262.out _; (with_reducible repeat (first | refine blk_drewN ?_ _ | refine blk_drew ?_ | refine blk_alloc ?_ _)); exact BK243.out⟩, ⟨by (with_reducible repeat (first | refine blk_drewN ?_ _ | refine blk_drew ?_ | refine blk_alloc ?_ _)); refine blk_put (cs := #[.int .i64 ((rd_T37 t246 (rd ((rd_T44 l0_1 x9_1).f1) x12_3)).f0), .int .i64 ((rd_T37 t246 (rd ((rd_T44 l0_1 x9_1).f1) x12_3)).f1), .int .i64 ((rd_T37 t246 (rd ((rd_T44 l0_1 x9_1).f1) x12_3)).f2), .int .i64 0]) ?_ 3 _ rfl; (with_reducible repeat (first | refine blk_drewN ?_ _ | refine blk_drew ?_ | refine blk_alloc ?_ _)); refine blk_put (cs := #[.int .i64 ((rd_T37 t246 (rd ((rd_T44 l0_1 x9_1).f1) x12_3)).f0), .int .i64 ((rd_T37 t246 (rd ((rd_T44 l0_1 x9_1).f1) x12_3)).f1), .int .i64 0, .int .i64 0]) ?_ 2 _ rfl; (with_reducible repeat (first | refine blk_drewN ?_ _ | refine blk_drew ?_ | refine blk_alloc ?_ _)); refine blk_put (cs := #[.int .i64 ((rd_T37 t246 (rd ((rd_T44 l0_1 x9_1).f1) x12_3)).f0), .int .i64 0, .int .i64 0, .int .i64 0]) ?_ 1 _ rfl; (with_reducible repeat (first | refine blk_drewN ?_ _ | refine blk_drew ?_ | refine blk_alloc ?_ _)); refine blk_put (cs := #[.int .i64 0, .int .i64 0, .int .i64 0, .int .i64 0]) ?_ 0 _ rfl; (with_reducible repeat (first | refine blk_drewN ?_ _ | refine blk_drew ?_ | refine blk_alloc ?_ _)); exact BK262.out⟩, ⟨by repeat (first | (with_reducible first | exact HB.out | apply below_alloc | apply pw_below_drewN | apply below_drew1 | refine below_set ?_ GE242.out | refine below_set ?_ GE243.out | refine below_set ?_ GE262.out) | exact HB.out)⟩⟩
                   ·
                    rw [if_neg c47] at H
                    exact absurd H (by simp)
                  case rest =>
                   clear HC40
                   try clear c2
                   try clear p2
                   try clear q2
                   try clear hx2
                   try clear c3
                   try clear c4
                   try clear c5
                   try clear c25
                   try clear p25
                   try clear q25
                   try clear hx25
                   try clear c26
                   try clear p26
                   try clear q26
                   try clear hx26
                   try clear c34
                   try clear c34b0
                   try clear c35
                   try clear c35b0
                   try clear c36
                   try clear c36b0
                   try clear c37
                   try clear c37b0
                   try clear c38
                   try clear c38b0
                   try clear c39
                   try clear c39b0
                   try clear c41
                   try clear c44
                   try clear c45
                   try clear c47
                   try clear c47b0
                   try clear c48
                   try clear c48b0
                   try clear c49
                   try clear c49b0
                   try clear c50
                   try clear c50b0
                   try clear c51
                   try clear c51b0
                   try clear c51b1
                   try clear c52
                   try clear c53
                   try clear c55
                   try clear c57
                   try clear c58
                   try clear hcz42_0
                   try clear hcz42_1
                   try clear hcz46_0
                   try clear hcz46_1
                   try clear hcz46_2
                   try clear hcz46_3
                   try clear hcz54_0
                   try clear hcz54_1
                   try clear hcz54_2
                   try clear hcz54_3
                   try clear hcz56_0
                   try clear hcz56_1
                   try clear hcz59_0
                   try clear hcz59_1
                   try clear hcz59_2
                   try clear hcz59_3
                   try clear hfz42_0
                   try clear hfz42_1
                   try clear hfz46_0
                   try clear hfz46_1
                   try clear hfz46_2
                   try clear hfz46_3
                   try clear hfz54_0
                   try clear hfz54_1
                   try clear hfz54_2
                   try clear hfz54_3
                   try clear hfz56_0
                   try clear hfz56_1
                   try clear hfz59_0
                   try clear hfz59_1
                   try clear hfz59_2
                   try clear hfz59_3
                   try clear hx258_0
                   try clear hx258_1
                   try clear hx258_10
                   try clear hx258_11
                   try clear hx258_12
                   try clear hx258_13
                   try clear hx258_14
                   try clear hx258_15
                   try clear hx258_2
                   try clear hx258_3
                   try clear hx258_4
                   try clear hx258_5
                   try clear hx258_6
                   try clear hx258_7
                   try clear hx258_8
                   try clear hx258_9
                   try clear hx259_0
                   try clear hx259_1
                   try clear hx259_10
                   try clear hx259_11
                   try clear hx259_12
                   try clear hx259_13
                   try clear hx259_14
                   try clear hx259_15
                   try clear hx259_2
                   try clear hx259_3
                   try clear hx259_4
                   try clear hx259_5
                   try clear hx259_6
                   try clear hx259_7
                   try clear hx259_8
                   try clear hx259_9
                   try clear hx260_0
                   try clear hx261_0
                   try clear hx261_1
                   try clear hx261_2
                   try clear hx261_3
                   try clear hx263_0
                   try clear hx263_1
                   try clear hx263_2
                   try clear hx263_3
                   try clear hx264_0
                   try clear hx264_1
                   try clear hx264_2
                   try clear hx264_3
                   try clear hx265_0
                   try clear hx265_1
                   try clear hx265_2
                   try clear hx265_3
                   try clear hx266_0
                   try clear hx266_1
                   try clear hx266_10
                   try clear hx266_11
                   try clear hx266_12
                   try clear hx266_13
                   try clear hx266_14
                   try clear hx266_15
                   try clear hx266_2
                   try clear hx266_3
                   try clear hx266_4
                   try clear hx266_5
                   try clear hx266_6
                   try clear hx266_7
                   try clear hx266_8
                   try clear hx266_9
                   try clear p258
                   try clear p259
                   try clear p260
                   try clear p261
                   try clear p263
                   try clear p264
                   try clear p265
                   try clear p266
                   try clear q256
                   try clear q257
                   try clear q258
                   try clear q259
                   try clear q260
                   try clear q261
                   try clear q263
                   try clear q264
                   try clear q265
                   try clear q266
                   obtain ⟨kq, x155_39, rfl, HA, HJ39, HO_6, BK242, BK243, BK262, HB⟩ := hcut
                   cases kq with
                   | zero => exact absurd HA.out (by simp [erratalaw20_BoundsPaths.j3])
                   | succ kj39 =>
                    have H := HA.out
                    clear HA
                    simp only [erratalaw20_BoundsPaths.j3] at H
                    by_cases c60 : x155_39 = true
                    ·
                     subst c60
                     have H1 : (some false) = some true := by rw [if_pos rfl] at H; exact H
                     clear H
                     have H := H1
                     clear H1
                     cases H
                    ·
                     replace c60 := Bool.eq_false_iff.mpr c60
                     subst c60
                     have H1 : (erratalaw20_BoundsPaths.l1 kj39 t244 t246 x9_1 (wrap64 (x12_3 + 1)) l0_0 l0_1) = some true := by rw [if_neg (show ¬ (false = true) by decide)] at H; exact H
                     clear H
                     have H := H1
                     clear H1
                     have H' := Aside0.mk H
                     clear H
                     go_wp2
                     repeat (go_quiet (fail); try go_wp2)
                     go_roundg kj39
                     case measure => have := HK1.out; have := HJ21.out; have := HK3.out; have := HJ39.out; omega
                     case rel => exact ⟨(wrap64 (x12_3 + 1)), (by first | rfl | (simp; done) | (simp [*]; done)), H', ⟨by have := HK1.out; have := HJ21.out; have := HK3.out; have := HJ39.out; omega⟩, ⟨by (with_reducible repeat (first | apply Kd.R_alloc | apply Kd.R_drewN | apply Kd.R_drew)); exact Kd.R_mono HO_6.out (fun _ hk => trivial)⟩, ⟨by (with_reducible repeat (first | refine blk_drewN ?_ _ | refine blk_drew ?_ | refine blk_alloc ?_ _)); exact BK242.out⟩, ⟨by (with_reducible repeat (first | refine blk_drewN ?_ _ | refine blk_drew ?_ | refine blk_alloc ?_ _)); exact BK243.out⟩, ⟨by repeat (first | (with_reducible first | exact HB.out | apply below_alloc | apply pw_below_drewN | apply below_drew1 | refine below_set ?_ GE242.out | refine below_set ?_ GE243.out | refine below_set ?_ GE262.out) | exact HB.out)⟩⟩
                 ·
                  rw [if_neg c39] at H
                  exact absurd H (by simp)
                ·
                 rw [if_neg c38] at H
                 exact absurd H (by simp)
               ·
                rw [if_neg c37] at H
                exact absurd H (by simp)
              ·
               rw [if_neg c36] at H
               have c36b0 : decide (x12_3 < (((rd_T44 l0_1 x9_1).f1).length : Int)) = false := decide_eq_false c36
               clear c36
               have H' := Aside0.mk H
               clear H
               have hnb61 := NB242_243.out
               have hnc61 := NB243_242.out
               obtain ⟨hcz62_0, hcz62_1, hfz62_0, hfz62_1⟩ := blk2 BK242.out
               have p258 : 0 ≤ (x9_1 : Int) := of_decide_eq_true (by first | (with_reducible assumption) | assumption)
               have q258 : x9_1 < (l0_1.length : Int) := of_decide_eq_true (by first | (with_reducible assumption) | assumption)
               obtain ⟨ad258, A258_1, c258_1, A258_4, c258_4, A258_8, c258_8, A258_9, c258_9, A258_13, c258_13, A258_14, c258_14, A258_15, c258_15, e258, hx258_0, hx258_1, hx258_2, hx258_3, hx258_4, hx258_5, hx258_6, hx258_7, hx258_8, hx258_9, hx258_10, hx258_11, hx258_12, hx258_13, hx258_14, hx258_15, hl258_1, hi258_1, hl258_4, hi258_4, hl258_8, hi258_8, hl258_9, hi258_9, hl258_13, hi258_13, hl258_14, hi258_14, hl258_15, hi258_15⟩ := at_T44 HR0_1.out x9_1 p258 q258
               cases e258
               replace hx258_0 := (HB.out.cell (World.block_lt_of_cell? w _ hx258_0)).trans hx258_0
               replace hx258_1 := (HB.out.cell (World.block_lt_of_cell? w _ hx258_1)).trans hx258_1
               replace hx258_2 := (HB.out.cell (World.block_lt_of_cell? w _ hx258_2)).trans hx258_2
               replace hx258_3 := (HB.out.cell (World.block_lt_of_cell? w _ hx258_3)).trans hx258_3
               replace hx258_4 := (HB.out.cell (World.block_lt_of_cell? w _ hx258_4)).trans hx258_4
               replace hx258_5 := (HB.out.cell (World.block_lt_of_cell? w _ hx258_5)).trans hx258_5
               replace hx258_6 := (HB.out.cell (World.block_lt_of_cell? w _ hx258_6)).trans hx258_6
               replace hx258_7 := (HB.out.cell (World.block_lt_of_cell? w _ hx258_7)).trans hx258_7
               replace hx258_8 := (HB.out.cell (World.block_lt_of_cell? w _ hx258_8)).trans hx258_8
               replace hx258_9 := (HB.out.cell (World.block_lt_of_cell? w _ hx258_9)).trans hx258_9
               replace hx258_10 := (HB.out.cell (World.block_lt_of_cell? w _ hx258_10)).trans hx258_10
               replace hx258_11 := (HB.out.cell (World.block_lt_of_cell? w _ hx258_11)).trans hx258_11
               replace hx258_12 := (HB.out.cell (World.block_lt_of_cell? w _ hx258_12)).trans hx258_12
               replace hx258_13 := (HB.out.cell (World.block_lt_of_cell? w _ hx258_13)).trans hx258_13
               replace hx258_14 := (HB.out.cell (World.block_lt_of_cell? w _ hx258_14)).trans hx258_14
               replace hx258_15 := (HB.out.cell (World.block_lt_of_cell? w _ hx258_15)).trans hx258_15
               have HR258_1 := Aside0.mk hi258_1
               have HC258_1 := Aside0.mk hl258_1
               clear hi258_1 hl258_1
               have HR258_4 := Aside0.mk hi258_4
               have HC258_4 := Aside0.mk hl258_4
               clear hi258_4 hl258_4
               have HR258_8 := Aside0.mk hi258_8
               have HC258_8 := Aside0.mk hl258_8
               clear hi258_8 hl258_8
               have HR258_9 := Aside0.mk hi258_9
               have HC258_9 := Aside0.mk hl258_9
               clear hi258_9 hl258_9
               have HR258_13 := Aside0.mk hi258_13
               have HC258_13 := Aside0.mk hl258_13
               clear hi258_13 hl258_13
               have HR258_14 := Aside0.mk hi258_14
               have HC258_14 := Aside0.mk hl258_14
               clear hi258_14 hl258_14
               have HR258_15 := Aside0.mk hi258_15
               have HC258_15 := Aside0.mk hl258_15
               clear hi258_15 hl258_15
               replace p258 := eq_true p258
               replace q258 := eq_true q258
               go_wp2
               repeat (go_quiet (fail); try go_wp2)
               go_roundg k3
               case measure => have := HK1.out; have := HJ21.out; have := HK3.out; omega
               case rel => exact ⟨(wrap64 (x9_1 + 1)), (by first | rfl | (simp; done) | (simp [*]; done)), H', ⟨by have := HK1.out; have := HJ21.out; have := HK3.out; omega⟩, ⟨by (with_reducible repeat (first | apply Kd.R_alloc | apply Kd.R_drewN | apply Kd.R_drew)); exact HO_6.out⟩, ⟨by (with_reducible repeat (first | refine blk_drewN ?_ _ | refine blk_drew ?_ | refine blk_alloc ?_ _)); exact BK242.out⟩, ⟨by (with_reducible repeat (first | refine blk_drewN ?_ _ | refine blk_drew ?_ | refine blk_alloc ?_ _)); exact BK243.out⟩, ⟨by repeat (first | (with_reducible first | exact HB.out | apply below_alloc | apply pw_below_drewN | apply below_drew1 | refine below_set ?_ GE242.out | refine below_set ?_ GE243.out) | exact HB.out)⟩⟩
             ·
              rw [if_neg c35] at H
              exact absurd H (by simp)
            ·
             rw [if_neg c34] at H
             exact absurd H (by simp)
      ·
       rw [if_neg c20] at H
       have c20b0 : decide (x9_1 < (t246.length : Int)) = false := decide_eq_false c20
       clear c20
       obtain rfl := Option.some.inj H
       go_wp2
       repeat (go_quiet (fail); try go_wp2)
       go_ret
       exact ⟨by first | rfl | (simp [errW_none, errW_some] <;> rfl) | (simp [*, errW_none, errW_some] <;> rfl), by repeat (first | (with_reducible first | exact HB.out | apply below_alloc | apply pw_below_drewN | apply below_drew1 | refine below_set ?_ GE242.out | refine below_set ?_ GE243.out) | exact HB.out)⟩
   ·
    rw [if_neg c8] at H
    have c8b0 : ((t246.length : Int) == (l0_1.length : Int)) = false := beq_eq_false_iff_ne.mpr c8
    have c8b1 : ((t246.length : Int) != (l0_1.length : Int)) = true := bne_iff_ne.mpr c8
    have c8b2 : (t246.length == l0_1.length) = false := by first | simpa using c8 | (simp at c8 ⊢; omega)
    cases H
  ·
   rw [if_neg c7] at H
   have c7b0 : (t250 == 0) = false := beq_eq_false_iff_ne.mpr c7
   have c7b1 : (t250 != 0) = true := bne_iff_ne.mpr c7
   by_cases c63 : t244 = true
   ·
    subst c63
    have H1 : (some ((t246.length : Int) == 0)) = some true := by rw [if_pos rfl] at H; exact H
    clear H
    have H := H1
    clear H1
    have HE_ := Option.some.inj H
    go_enter Try.func3, Try.ntmps3
    go_wp2_with (first | ((with_reducible refine gate_dst (N := 2) rfl ?_); (try (refine gate_guard (by rfl) ?_; dsimp only)); refine box_event ?hg (N := 2) ?hd (cs := #[.slice A0_0 l0_0.length c0_0, .slice A0_1 l0_1.length c0_1]) (t := 25) ?hr ?_; (case hd => rfl); (case hg => rfl); (case hr => first | (go_simp; done) | (go_simp; rfl)); intro gb242 hg w64 hbox hb; have n0_ := Aside0.mk (below_stepA hb); have n1_ := Aside0.mk (hbox); have n2_ := Aside0.mk ((by rw [hg]; exact below_sizeA : w.heap.size ≤ gb242)); have n3_ := Aside0.mk ((by rw [hg]; exact below_sizeA : w.heap.size ≤ gb242)); clear HB; have HB := n0_; have BK242 := n1_; have GW242 := n2_; have GE242 := n3_; clear n0_ n1_ n2_ n3_; clear hb hbox hg) | ((with_reducible refine gate_dst (N := 3) rfl ?_); (try (refine gate_guard (by rfl) ?_; dsimp only)); refine box_event ?hg (N := 3) ?hd (cs := #[.int .i64 a1_0, .int .i64 a1_1, .int .i64 a1_2, .int .i64 a1_3, .int .i64 a1_4, .int .i64 a1_5]) (t := 27) ?hr ?_; (case hd => rfl); (case hg => rfl); (case hr => first | (go_simp; done) | (go_simp; rfl)); intro gb243 hg w65 hbox hb; have n0_ := Aside0.mk (blk_keepA BK242.out hb); have n1_ := Aside0.mk (below_stepA hb); have n2_ := Aside0.mk (hbox); have n3_ := Aside0.mk ((by rw [hg]; exact below_sizeA : w.heap.size ≤ gb243)); have n4_ := Aside0.mk ((by rw [hg]; exact below_sizeA : w.heap.size ≤ gb243)); have n5_ := Aside0.mk ((by rw [hg]; exact Nat.ne_of_lt (blk_ltKA BK242.out) : gb242 ≠ gb243)); have n6_ := Aside0.mk ((by rw [hg]; exact Nat.ne_of_gt (blk_ltKA BK242.out) : gb243 ≠ gb242)); clear BK242; clear HB; have BK242 := n0_; have HB := n1_; have BK243 := n2_; have GW243 := n3_; have GE243 := n4_; have NB242_243 := n5_; have NB243_242 := n6_; clear n0_ n1_ n2_ n3_ n4_ n5_ n6_; clear hb hbox hg) | (go_at_call 7; (with_reducible refine (erratalaw20_small.calls k  true _ A3.out).mono ?_); rintro e w66 ⟨rfl, hb⟩; have n0_ := Aside0.mk (blk_keepA BK242.out hb); have n1_ := Aside0.mk (blk_keepA BK243.out hb); have n2_ := Aside0.mk (below_stepA hb); clear BK242; clear BK243; clear HB; have BK242 := n0_; have BK243 := n1_; have HB := n2_; clear n0_ n1_ n2_; (try clear hb); (try clear hb2); (try clear hk); (try clear hi); have hnb67 := NB242_243.out; have hnc67 := NB243_242.out; obtain ⟨hcz68_0, hcz68_1, hfz68_0, hfz68_1⟩ := blk2 BK242.out) | (go_at_call 8; (with_reducible refine (erratalaw20_few.calls k _ _ l0_0 _ _ l0_1 true _ ?side1 ?side2 ?side3 ?side4 A4.out).mono ?_); (case side1 => exact c_belowA HR0_0.out); (case side2 => exact HC0_0.out); (case side3 => exact c_belowA HR0_1.out); (case side4 => exact HC0_1.out); rintro e w69 ⟨rfl, hb⟩; have n0_ := Aside0.mk (blk_keepA BK242.out hb); have n1_ := Aside0.mk (blk_keepA BK243.out hb); have n2_ := Aside0.mk (below_stepA hb); clear BK242; clear BK243; clear HB; have BK242 := n0_; have BK243 := n1_; have HB := n2_; clear n0_ n1_ n2_; (try clear hb); (try clear hb2); (try clear hk); (try clear hi); obtain ⟨hcz70_0, hcz70_1, hfz70_0, hfz70_1⟩ := blk2 BK242.out; obtain ⟨hcz71_0, hcz71_1, hcz71_2, hcz71_3, hcz71_4, hcz71_5, hfz71_0, hfz71_1, hfz71_2, hfz71_3, hfz71_4, hfz71_5⟩ := blk6 BK243.out) | (go_at_call 9; (with_reducible refine (bounds_Analyze.calls k _ _ l0_0 _ _ l0_1 a1_0 a1_1 a1_2 a1_3 a1_4 a1_5 t246 t249 t250 _ ?side1 ?side2 ?side3 ?side4 A6.out).mono ?_); (case side1 => exact c_belowA HR0_0.out); (case side2 => exact HC0_0.out); (case side3 => exact c_belowA HR0_1.out); (case side4 => exact HC0_1.out); rintro e w72 ⟨v247, rfl, ho0, hb⟩; have n0_ := Aside0.mk (Kd.R_lower ho0 below_sizeA); have n1_ := Aside0.mk (blk_keepA BK242.out hb); have n2_ := Aside0.mk (blk_keepA BK243.out hb); have n3_ := Aside0.mk (below_stepA hb); clear BK242; clear BK243; clear HB; have HO248 := n0_; have BK242 := n1_; have BK243 := n2_; have HB := n3_; clear n0_ n1_ n2_ n3_; (try clear hb); (try clear hb2); (try clear hk); (try clear hi); (try clear ho0); obtain ⟨Ao73, co73, eo73⟩ := Kd.R_slice HO248.out; subst eo73))
    repeat (go_quiet (first | ((with_reducible refine gate_dst (N := 2) rfl ?_); (try (refine gate_guard (by rfl) ?_; dsimp only)); refine box_event ?hg (N := 2) ?hd (cs := #[.slice A0_0 l0_0.length c0_0, .slice A0_1 l0_1.length c0_1]) (t := 25) ?hr ?_; (case hd => rfl); (case hg => rfl); (case hr => first | (go_simp; done) | (go_simp; rfl)); intro gb242 hg w64 hbox hb; have n0_ := Aside0.mk (below_stepA hb); have n1_ := Aside0.mk (hbox); have n2_ := Aside0.mk ((by rw [hg]; exact below_sizeA : w.heap.size ≤ gb242)); have n3_ := Aside0.mk ((by rw [hg]; exact below_sizeA : w.heap.size ≤ gb242)); clear HB; have HB := n0_; have BK242 := n1_; have GW242 := n2_; have GE242 := n3_; clear n0_ n1_ n2_ n3_; clear hb hbox hg) | ((with_reducible refine gate_dst (N := 3) rfl ?_); (try (refine gate_guard (by rfl) ?_; dsimp only)); refine box_event ?hg (N := 3) ?hd (cs := #[.int .i64 a1_0, .int .i64 a1_1, .int .i64 a1_2, .int .i64 a1_3, .int .i64 a1_4, .int .i64 a1_5]) (t := 27) ?hr ?_; (case hd => rfl); (case hg => rfl); (case hr => first | (go_simp; done) | (go_simp; rfl)); intro gb243 hg w65 hbox hb; have n0_ := Aside0.mk (blk_keepA BK242.out hb); have n1_ := Aside0.mk (below_stepA hb); have n2_ := Aside0.mk (hbox); have n3_ := Aside0.mk ((by rw [hg]; exact below_sizeA : w.heap.size ≤ gb243)); have n4_ := Aside0.mk ((by rw [hg]; exact below_sizeA : w.heap.size ≤ gb243)); have n5_ := Aside0.mk ((by rw [hg]; exact Nat.ne_of_lt (blk_ltKA BK242.out) : gb242 ≠ gb243)); have n6_ := Aside0.mk ((by rw [hg]; exact Nat.ne_of_gt (blk_ltKA BK242.out) : gb243 ≠ gb242)); clear BK242; clear HB; have BK242 := n0_; have HB := n1_; have BK243 := n2_; have GW243 := n3_; have GE243 := n4_; have NB242_243 := n5_; have NB243_242 := n6_; clear n0_ n1_ n2_ n3_ n4_ n5_ n6_; clear hb hbox hg) | (go_at_call 7; (with_reducible refine (erratalaw20_small.calls k  true _ A3.out).mono ?_); rintro e w66 ⟨rfl, hb⟩; have n0_ := Aside0.mk (blk_keepA BK242.out hb); have n1_ := Aside0.mk (blk_keepA BK243.out hb); have n2_ := Aside0.mk (below_stepA hb); clear BK242; clear BK243; clear HB; have BK242 := n0_; have BK243 := n1_; have HB := n2_; clear n0_ n1_ n2_; (try clear hb); (try clear hb2); (try clear hk); (try clear hi); have hnb67 := NB242_243.out; have hnc67 := NB243_242.out; obtain ⟨hcz68_0, hcz68_1, hfz68_0, hfz68_1⟩ := blk2 BK242.out) | (go_at_call 8; (with_reducible refine (erratalaw20_few.calls k _ _ l0_0 _ _ l0_1 true _ ?side1 ?side2 ?side3 ?side4 A4.out).mono ?_); (case side1 => exact c_belowA HR0_0.out); (case side2 => exact HC0_0.out); (case side3 => exact c_belowA HR0_1.out); (case side4 => exact HC0_1.out); rintro e w69 ⟨rfl, hb⟩; have n0_ := Aside0.mk (blk_keepA BK242.out hb); have n1_ := Aside0.mk (blk_keepA BK243.out hb); have n2_ := Aside0.mk (below_stepA hb); clear BK242; clear BK243; clear HB; have BK242 := n0_; have BK243 := n1_; have HB := n2_; clear n0_ n1_ n2_; (try clear hb); (try clear hb2); (try clear hk); (try clear hi); obtain ⟨hcz70_0, hcz70_1, hfz70_0, hfz70_1⟩ := blk2 BK242.out; obtain ⟨hcz71_0, hcz71_1, hcz71_2, hcz71_3, hcz71_4, hcz71_5, hfz71_0, hfz71_1, hfz71_2, hfz71_3, hfz71_4, hfz71_5⟩ := blk6 BK243.out) | (go_at_call 9; (with_reducible refine (bounds_Analyze.calls k _ _ l0_0 _ _ l0_1 a1_0 a1_1 a1_2 a1_3 a1_4 a1_5 t246 t249 t250 _ ?side1 ?side2 ?side3 ?side4 A6.out).mono ?_); (case side1 => exact c_belowA HR0_0.out); (case side2 => exact HC0_0.out); (case side3 => exact c_belowA HR0_1.out); (case side4 => exact HC0_1.out); rintro e w72 ⟨v247, rfl, ho0, hb⟩; have n0_ := Aside0.mk (Kd.R_lower ho0 below_sizeA); have n1_ := Aside0.mk (blk_keepA BK242.out hb); have n2_ := Aside0.mk (blk_keepA BK243.out hb); have n3_ := Aside0.mk (below_stepA hb); clear BK242; clear BK243; clear HB; have HO248 := n0_; have BK242 := n1_; have BK243 := n2_; have HB := n3_; clear n0_ n1_ n2_ n3_; (try clear hb); (try clear hb2); (try clear hk); (try clear hi); (try clear ho0); obtain ⟨Ao73, co73, eo73⟩ := Kd.R_slice HO248.out; subst eo73)); try go_wp2_with (first | ((with_reducible refine gate_dst (N := 2) rfl ?_); (try (refine gate_guard (by rfl) ?_; dsimp only)); refine box_event ?hg (N := 2) ?hd (cs := #[.slice A0_0 l0_0.length c0_0, .slice A0_1 l0_1.length c0_1]) (t := 25) ?hr ?_; (case hd => rfl); (case hg => rfl); (case hr => first | (go_simp; done) | (go_simp; rfl)); intro gb242 hg w64 hbox hb; have n0_ := Aside0.mk (below_stepA hb); have n1_ := Aside0.mk (hbox); have n2_ := Aside0.mk ((by rw [hg]; exact below_sizeA : w.heap.size ≤ gb242)); have n3_ := Aside0.mk ((by rw [hg]; exact below_sizeA : w.heap.size ≤ gb242)); clear HB; have HB := n0_; have BK242 := n1_; have GW242 := n2_; have GE242 := n3_; clear n0_ n1_ n2_ n3_; clear hb hbox hg) | ((with_reducible refine gate_dst (N := 3) rfl ?_); (try (refine gate_guard (by rfl) ?_; dsimp only)); refine box_event ?hg (N := 3) ?hd (cs := #[.int .i64 a1_0, .int .i64 a1_1, .int .i64 a1_2, .int .i64 a1_3, .int .i64 a1_4, .int .i64 a1_5]) (t := 27) ?hr ?_; (case hd => rfl); (case hg => rfl); (case hr => first | (go_simp; done) | (go_simp; rfl)); intro gb243 hg w65 hbox hb; have n0_ := Aside0.mk (blk_keepA BK242.out hb); have n1_ := Aside0.mk (below_stepA hb); have n2_ := Aside0.mk (hbox); have n3_ := Aside0.mk ((by rw [hg]; exact below_sizeA : w.heap.size ≤ gb243)); have n4_ := Aside0.mk ((by rw [hg]; exact below_sizeA : w.heap.size ≤ gb243)); have n5_ := Aside0.mk ((by rw [hg]; exact Nat.ne_of_lt (blk_ltKA BK242.out) : gb242 ≠ gb243)); have n6_ := Aside0.mk ((by rw [hg]; exact Nat.ne_of_gt (blk_ltKA BK242.out) : gb243 ≠ gb242)); clear BK242; clear HB; have BK242 := n0_; have HB := n1_; have BK243 := n2_; have GW243 := n3_; have GE243 := n4_; have NB242_243 := n5_; have NB243_242 := n6_; clear n0_ n1_ n2_ n3_ n4_ n5_ n6_; clear hb hbox hg) | (go_at_call 7; (with_reducible refine (erratalaw20_small.calls k  true _ A3.out).mono ?_); rintro e w66 ⟨rfl, hb⟩; have n0_ := Aside0.mk (blk_keepA BK242.out hb); have n1_ := Aside0.mk (blk_keepA BK243.out hb); have n2_ := Aside0.mk (below_stepA hb); clear BK242; clear BK243; clear HB; have BK242 := n0_; have BK243 := n1_; have HB := n2_; clear n0_ n1_ n2_; (try clear hb); (try clear hb2); (try clear hk); (try clear hi); have hnb67 := NB242_243.out; have hnc67 := NB243_242.out; obtain ⟨hcz68_0, hcz68_1, hfz68_0, hfz68_1⟩ := blk2 BK242.out) | (go_at_call 8; (with_reducible refine (erratalaw20_few.calls k _ _ l0_0 _ _ l0_1 true _ ?side1 ?side2 ?side3 ?side4 A4.out).mono ?_); (case side1 => exact c_belowA HR0_0.out); (case side2 => exact HC0_0.out); (case side3 => exact c_belowA HR0_1.out); (case side4 => exact HC0_1.out); rintro e w69 ⟨rfl, hb⟩; have n0_ := Aside0.mk (blk_keepA BK242.out hb); have n1_ := Aside0.mk (blk_keepA BK243.out hb); have n2_ := Aside0.mk (below_stepA hb); clear BK242; clear BK243; clear HB; have BK242 := n0_; have BK243 := n1_; have HB := n2_; clear n0_ n1_ n2_; (try clear hb); (try clear hb2); (try clear hk); (try clear hi); obtain ⟨hcz70_0, hcz70_1, hfz70_0, hfz70_1⟩ := blk2 BK242.out; obtain ⟨hcz71_0, hcz71_1, hcz71_2, hcz71_3, hcz71_4, hcz71_5, hfz71_0, hfz71_1, hfz71_2, hfz71_3, hfz71_4, hfz71_5⟩ := blk6 BK243.out) | (go_at_call 9; (with_reducible refine (bounds_Analyze.calls k _ _ l0_0 _ _ l0_1 a1_0 a1_1 a1_2 a1_3 a1_4 a1_5 t246 t249 t250 _ ?side1 ?side2 ?side3 ?side4 A6.out).mono ?_); (case side1 => exact c_belowA HR0_0.out); (case side2 => exact HC0_0.out); (case side3 => exact c_belowA HR0_1.out); (case side4 => exact HC0_1.out); rintro e w72 ⟨v247, rfl, ho0, hb⟩; have n0_ := Aside0.mk (Kd.R_lower ho0 below_sizeA); have n1_ := Aside0.mk (blk_keepA BK242.out hb); have n2_ := Aside0.mk (blk_keepA BK243.out hb); have n3_ := Aside0.mk (below_stepA hb); clear BK242; clear BK243; clear HB; have HO248 := n0_; have BK242 := n1_; have BK243 := n2_; have HB := n3_; clear n0_ n1_ n2_ n3_; (try clear hb); (try clear hb2); (try clear hk); (try clear hi); (try clear ho0); obtain ⟨Ao73, co73, eo73⟩ := Kd.R_slice HO248.out; subst eo73)))
    go_ret
    exact ⟨by first | rfl | (simp [errW_none, errW_some] <;> rfl) | (simp [*, errW_none, errW_some] <;> rfl), by repeat (first | (with_reducible first | exact HB.out | apply below_alloc | apply pw_below_drewN | apply below_drew1 | refine below_set ?_ GE242.out | refine below_set ?_ GE243.out) | exact HB.out)⟩
   ·
    replace c63 := Bool.eq_false_iff.mpr c63
    subst c63
    have H1 : (some false) = some true := by rw [if_neg (show ¬ (false = true) by decide)] at H; exact H
    clear H
    have H := H1
    clear H1
    cases H
 ·
  replace c5 := Bool.eq_false_iff.mpr c5
  subst c5
  have H1 : (some t244) = some true := by rw [if_neg (show ¬ (false = true) by decide)] at H; exact H
  clear H
  have H := H1
  clear H1
  obtain rfl := Option.some.inj H
  go_enter Try.func3, Try.ntmps3
  go_wp2_with (first | ((with_reducible refine gate_dst (N := 2) rfl ?_); (try (refine gate_guard (by rfl) ?_; dsimp only)); refine box_event ?hg (N := 2) ?hd (cs := #[.slice A0_0 l0_0.length c0_0, .slice A0_1 l0_1.length c0_1]) (t := 25) ?hr ?_; (case hd => rfl); (case hg => rfl); (case hr => first | (go_simp; done) | (go_simp; rfl)); intro gb242 hg w74 hbox hb; have n0_ := Aside0.mk (below_stepA hb); have n1_ := Aside0.mk (hbox); have n2_ := Aside0.mk ((by rw [hg]; exact below_sizeA : w.heap.size ≤ gb242)); have n3_ := Aside0.mk ((by rw [hg]; exact below_sizeA : w.heap.size ≤ gb242)); clear HB; have HB := n0_; have BK242 := n1_; have GW242 := n2_; have GE242 := n3_; clear n0_ n1_ n2_ n3_; clear hb hbox hg) | ((with_reducible refine gate_dst (N := 3) rfl ?_); (try (refine gate_guard (by rfl) ?_; dsimp only)); refine box_event ?hg (N := 3) ?hd (cs := #[.int .i64 a1_0, .int .i64 a1_1, .int .i64 a1_2, .int .i64 a1_3, .int .i64 a1_4, .int .i64 a1_5]) (t := 27) ?hr ?_; (case hd => rfl); (case hg => rfl); (case hr => first | (go_simp; done) | (go_simp; rfl)); intro gb243 hg w75 hbox hb; have n0_ := Aside0.mk (blk_keepA BK242.out hb); have n1_ := Aside0.mk (below_stepA hb); have n2_ := Aside0.mk (hbox); have n3_ := Aside0.mk ((by rw [hg]; exact below_sizeA : w.heap.size ≤ gb243)); have n4_ := Aside0.mk ((by rw [hg]; exact below_sizeA : w.heap.size ≤ gb243)); have n5_ := Aside0.mk ((by rw [hg]; exact Nat.ne_of_lt (blk_ltKA BK242.out) : gb242 ≠ gb243)); have n6_ := Aside0.mk ((by rw [hg]; exact Nat.ne_of_gt (blk_ltKA BK242.out) : gb243 ≠ gb242)); clear BK242; clear HB; have BK242 := n0_; have HB := n1_; have BK243 := n2_; have GW243 := n3_; have GE243 := n4_; have NB242_243 := n5_; have NB243_242 := n6_; clear n0_ n1_ n2_ n3_ n4_ n5_ n6_; clear hb hbox hg) | (go_at_call 7; (with_reducible refine (erratalaw20_small.calls k  true _ A3.out).mono ?_); rintro e w76 ⟨rfl, hb⟩; have n0_ := Aside0.mk (blk_keepA BK242.out hb); have n1_ := Aside0.mk (blk_keepA BK243.out hb); have n2_ := Aside0.mk (below_stepA hb); clear BK242; clear BK243; clear HB; have BK242 := n0_; have BK243 := n1_; have HB := n2_; clear n0_ n1_ n2_; (try clear hb); (try clear hb2); (try clear hk); (try clear hi); have hnb77 := NB242_243.out; have hnc77 := NB243_242.out; obtain ⟨hcz78_0, hcz78_1, hfz78_0, hfz78_1⟩ := blk2 BK242.out) | (go_at_call 8; (with_reducible refine (erratalaw20_few.calls k _ _ l0_0 _ _ l0_1 false _ ?side1 ?side2 ?side3 ?side4 A4.out).mono ?_); (case side1 => exact c_belowA HR0_0.out); (case side2 => exact HC0_0.out); (case side3 => exact c_belowA HR0_1.out); (case side4 => exact HC0_1.out); rintro e w79 ⟨rfl, hb⟩; have n0_ := Aside0.mk (blk_keepA BK242.out hb); have n1_ := Aside0.mk (blk_keepA BK243.out hb); have n2_ := Aside0.mk (below_stepA hb); clear BK242; clear BK243; clear HB; have BK242 := n0_; have BK243 := n1_; have HB := n2_; clear n0_ n1_ n2_; (try clear hb); (try clear hb2); (try clear hk); (try clear hi)))
  repeat (go_quiet (first | ((with_reducible refine gate_dst (N := 2) rfl ?_); (try (refine gate_guard (by rfl) ?_; dsimp only)); refine box_event ?hg (N := 2) ?hd (cs := #[.slice A0_0 l0_0.length c0_0, .slice A0_1 l0_1.length c0_1]) (t := 25) ?hr ?_; (case hd => rfl); (case hg => rfl); (case hr => first | (go_simp; done) | (go_simp; rfl)); intro gb242 hg w74 hbox hb; have n0_ := Aside0.mk (below_stepA hb); have n1_ := Aside0.mk (hbox); have n2_ := Aside0.mk ((by rw [hg]; exact below_sizeA : w.heap.size ≤ gb242)); have n3_ := Aside0.mk ((by rw [hg]; exact below_sizeA : w.heap.size ≤ gb242)); clear HB; have HB := n0_; have BK242 := n1_; have GW242 := n2_; have GE242 := n3_; clear n0_ n1_ n2_ n3_; clear hb hbox hg) | ((with_reducible refine gate_dst (N := 3) rfl ?_); (try (refine gate_guard (by rfl) ?_; dsimp only)); refine box_event ?hg (N := 3) ?hd (cs := #[.int .i64 a1_0, .int .i64 a1_1, .int .i64 a1_2, .int .i64 a1_3, .int .i64 a1_4, .int .i64 a1_5]) (t := 27) ?hr ?_; (case hd => rfl); (case hg => rfl); (case hr => first | (go_simp; done) | (go_simp; rfl)); intro gb243 hg w75 hbox hb; have n0_ := Aside0.mk (blk_keepA BK242.out hb); have n1_ := Aside0.mk (below_stepA hb); have n2_ := Aside0.mk (hbox); have n3_ := Aside0.mk ((by rw [hg]; exact below_sizeA : w.heap.size ≤ gb243)); have n4_ := Aside0.mk ((by rw [hg]; exact below_sizeA : w.heap.size ≤ gb243)); have n5_ := Aside0.mk ((by rw [hg]; exact Nat.ne_of_lt (blk_ltKA BK242.out) : gb242 ≠ gb243)); have n6_ := Aside0.mk ((by rw [hg]; exact Nat.ne_of_gt (blk_ltKA BK242.out) : gb243 ≠ gb242)); clear BK242; clear HB; have BK242 := n0_; have HB := n1_; have BK243 := n2_; have GW243 := n3_; have GE243 := n4_; have NB242_243 := n5_; have NB243_242 := n6_; clear n0_ n1_ n2_ n3_ n4_ n5_ n6_; clear hb hbox hg) | (go_at_call 7; (with_reducible refine (erratalaw20_small.calls k  true _ A3.out).mono ?_); rintro e w76 ⟨rfl, hb⟩; have n0_ := Aside0.mk (blk_keepA BK242.out hb); have n1_ := Aside0.mk (blk_keepA BK243.out hb); have n2_ := Aside0.mk (below_stepA hb); clear BK242; clear BK243; clear HB; have BK242 := n0_; have BK243 := n1_; have HB := n2_; clear n0_ n1_ n2_; (try clear hb); (try clear hb2); (try clear hk); (try clear hi); have hnb77 := NB242_243.out; have hnc77 := NB243_242.out; obtain ⟨hcz78_0, hcz78_1, hfz78_0, hfz78_1⟩ := blk2 BK242.out) | (go_at_call 8; (with_reducible refine (erratalaw20_few.calls k _ _ l0_0 _ _ l0_1 false _ ?side1 ?side2 ?side3 ?side4 A4.out).mono ?_); (case side1 => exact c_belowA HR0_0.out); (case side2 => exact HC0_0.out); (case side3 => exact c_belowA HR0_1.out); (case side4 => exact HC0_1.out); rintro e w79 ⟨rfl, hb⟩; have n0_ := Aside0.mk (blk_keepA BK242.out hb); have n1_ := Aside0.mk (blk_keepA BK243.out hb); have n2_ := Aside0.mk (below_stepA hb); clear BK242; clear BK243; clear HB; have BK242 := n0_; have BK243 := n1_; have HB := n2_; clear n0_ n1_ n2_; (try clear hb); (try clear hb2); (try clear hk); (try clear hi))); try go_wp2_with (first | ((with_reducible refine gate_dst (N := 2) rfl ?_); (try (refine gate_guard (by rfl) ?_; dsimp only)); refine box_event ?hg (N := 2) ?hd (cs := #[.slice A0_0 l0_0.length c0_0, .slice A0_1 l0_1.length c0_1]) (t := 25) ?hr ?_; (case hd => rfl); (case hg => rfl); (case hr => first | (go_simp; done) | (go_simp; rfl)); intro gb242 hg w74 hbox hb; have n0_ := Aside0.mk (below_stepA hb); have n1_ := Aside0.mk (hbox); have n2_ := Aside0.mk ((by rw [hg]; exact below_sizeA : w.heap.size ≤ gb242)); have n3_ := Aside0.mk ((by rw [hg]; exact below_sizeA : w.heap.size ≤ gb242)); clear HB; have HB := n0_; have BK242 := n1_; have GW242 := n2_; have GE242 := n3_; clear n0_ n1_ n2_ n3_; clear hb hbox hg) | ((with_reducible refine gate_dst (N := 3) rfl ?_); (try (refine gate_guard (by rfl) ?_; dsimp only)); refine box_event ?hg (N := 3) ?hd (cs := #[.int .i64 a1_0, .int .i64 a1_1, .int .i64 a1_2, .int .i64 a1_3, .int .i64 a1_4, .int .i64 a1_5]) (t := 27) ?hr ?_; (case hd => rfl); (case hg => rfl); (case hr => first | (go_simp; done) | (go_simp; rfl)); intro gb243 hg w75 hbox hb; have n0_ := Aside0.mk (blk_keepA BK242.out hb); have n1_ := Aside0.mk (below_stepA hb); have n2_ := Aside0.mk (hbox); have n3_ := Aside0.mk ((by rw [hg]; exact below_sizeA : w.heap.size ≤ gb243)); have n4_ := Aside0.mk ((by rw [hg]; exact below_sizeA : w.heap.size ≤ gb243)); have n5_ := Aside0.mk ((by rw [hg]; exact Nat.ne_of_lt (blk_ltKA BK242.out) : gb242 ≠ gb243)); have n6_ := Aside0.mk ((by rw [hg]; exact Nat.ne_of_gt (blk_ltKA BK242.out) : gb243 ≠ gb242)); clear BK242; clear HB; have BK242 := n0_; have HB := n1_; have BK243 := n2_; have GW243 := n3_; have GE243 := n4_; have NB242_243 := n5_; have NB243_242 := n6_; clear n0_ n1_ n2_ n3_ n4_ n5_ n6_; clear hb hbox hg) | (go_at_call 7; (with_reducible refine (erratalaw20_small.calls k  true _ A3.out).mono ?_); rintro e w76 ⟨rfl, hb⟩; have n0_ := Aside0.mk (blk_keepA BK242.out hb); have n1_ := Aside0.mk (blk_keepA BK243.out hb); have n2_ := Aside0.mk (below_stepA hb); clear BK242; clear BK243; clear HB; have BK242 := n0_; have BK243 := n1_; have HB := n2_; clear n0_ n1_ n2_; (try clear hb); (try clear hb2); (try clear hk); (try clear hi); have hnb77 := NB242_243.out; have hnc77 := NB243_242.out; obtain ⟨hcz78_0, hcz78_1, hfz78_0, hfz78_1⟩ := blk2 BK242.out) | (go_at_call 8; (with_reducible refine (erratalaw20_few.calls k _ _ l0_0 _ _ l0_1 false _ ?side1 ?side2 ?side3 ?side4 A4.out).mono ?_); (case side1 => exact c_belowA HR0_0.out); (case side2 => exact HC0_0.out); (case side3 => exact c_belowA HR0_1.out); (case side4 => exact HC0_1.out); rintro e w79 ⟨rfl, hb⟩; have n0_ := Aside0.mk (blk_keepA BK242.out hb); have n1_ := Aside0.mk (blk_keepA BK243.out hb); have n2_ := Aside0.mk (below_stepA hb); clear BK242; clear BK243; clear HB; have BK242 := n0_; have BK243 := n1_; have HB := n2_; clear n0_ n1_ n2_; (try clear hb); (try clear hb2); (try clear hk); (try clear hi))))
  go_ret
  exact ⟨by first | rfl | (simp [errW_none, errW_some] <;> rfl) | (simp [*, errW_none, errW_some] <;> rfl), by repeat (first | (with_reducible first | exact HB.out | apply below_alloc | apply pw_below_drewN | apply below_drew1 | refine below_set ?_ GE242.out | refine below_set ?_ GE243.out) | exact HB.out)⟩

end Go.Proofs.Yteoljddobfnfiaa.PB
end
section
namespace Go.Proofs.Yteoljddobfnfiaa.Pure
open Go.RowKit Go.Proofs.YteoljddobfnfiaaW.PrintWords Go.Proofs.YteoljddobfnfiaaW.PrintLast Go.Proofs.YteoljddobfnfiaaW.PrintMore Go.Proofs.Yteoljddobfnfiaa.PB
set_option linter.unusedVariables false
set_option linter.unusedSimpArgs false

theorem fold_mx_ge (g : Int → Int) : ∀ (l : List Int) (s : Int), s ≤ l.foldl (fun s x => mx s (g x)) s ∧ ∀ x ∈ l, g x ≤ l.foldl (fun s x => mx s (g x)) s
  | [], s => ⟨Int.le_refl _, fun x hx => by cases hx⟩
  | y :: l, s => by
    have ih := fold_mx_ge g l (mx s (g y))
    have h1 : s ≤ mx s (g y) := by unfold mx; split <;> omega
    have h2 : g y ≤ mx s (g y) := by unfold mx; split <;> omega
    rw [List.foldl_cons]
    refine ⟨by omega, fun x hx => ?_⟩
    rcases List.mem_cons.1 hx with rfl | hx
    · omega
    · exact ih.2 x hx
theorem mul_ge {a b : Int} (h1 : 0 ≤ a) (h2 : 1 ≤ b) : a ≤ a * b := by
  have := Int.mul_le_mul_of_nonneg_left h2 h1
  omega
theorem acc_in {l : List S44} {c0 c1 c2 c3 c4 c5 : Int} {bs : List S37} (A : Acc l c0 c1 c2 c3 c4 c5 bs) {i : Nat} (hi : i < l.length) {j : Nat} (hj : j < l[i].f1.length) :
    (0 ≤ l[i].f1[j] ∧ l[i].f1[j] < (i : Int)) ∧ (rd_T37 bs l[i].f1[j]).f0 ≤ (rd_T37 bs (i : Int)).f0 ∧ (rd_T37 bs l[i].f1[j]).f1 ≤ (rd_T37 bs (i : Int)).f1 ∧ ((rd_T37 bs l[i].f1[j]).f2 ≤ (rd_T37 bs (i : Int)).f2 ∨ (l[i].f0 = 7 ∧ j ≠ 0)) := by
  obtain ⟨k1, k2, k3, k4, k5, k6⟩ := A.node i hi
  obtain ⟨m1, m2, m3⟩ := node_ins k1
  have hm := List.getElem_mem hj
  have hx := okIn_mem m3 hm
  have w := own_range l[i]
  have hlen := ins_le l[i].f0
  refine ⟨hx, ?_, ?_, ?_⟩
  · rw [k3]
    have := (fold_mx_ge (fun x => (rd_T37 bs x).f0) l[i].f1 0).2 _ hm
    unfold boundOf backOf
    dsimp only at this ⊢
    omega
  · rw [k3]
    have := (fold_mx_ge (fun x => (rd_T37 bs x).f1) l[i].f1 0).2 _ hm
    unfold boundOf foreOf
    dsimp only at this ⊢
    omega
  · have ko : ∀ x, 0 ≤ x → x < (i : Int) → 1 ≤ (rd_T37 bs x).f2 ∧ (rd_T37 bs x).f2 ≤ 1099511627776 := fun x h0 h1 => (pre_at A.pre h0 (by omega)).2.2.1
    have e : ∀ j : Nat, (hj : j < l[i].f1.length) → rd l[i].f1 (j : Int) = l[i].f1[j] := fun j hj => rd_at hj
    rw [k3]
    have e0' : l[i].f0 ≠ 0 := by
      intro h
      unfold ins at m2
      rw [if_pos h] at m2
      omega
    have l0 := ins1 m2 e0'
    have a0 := okIn_mem m3 (List.getElem_mem l0)
    have p0 := ko _ a0.1 a0.2
    have q0 : rd l[i].f1 0 = l[i].f1[0] := e 0 l0
    by_cases e3 : l[i].f0 = 3
    · have l1 := ins2 m2 (by omega)
      have a1 := okIn_mem m3 (List.getElem_mem l1)
      have p1 := ko _ a1.1 a1.2
      have q1 : rd l[i].f1 1 = l[i].f1[1] := e 1 l1
      have hr : (boundOf bs c0 c4 c5 l[i]).f2 = mn ((rd_T37 bs l[i].f1[0]).f2 + (rd_T37 bs l[i].f1[1]).f2) 1099511627776 := by
        unfold boundOf rateOf
        dsimp only
        rw [if_neg e0', if_pos e3, q0, q1]
      left
      rw [hr]
      have hj2 : j = 0 ∨ j = 1 := by omega
      rcases hj2 with rfl | rfl
      · exact le_mn (by omega) p0.2
      · exact le_mn (by omega) p1.2
    by_cases e4 : l[i].f0 = 4 ∨ l[i].f0 = 5
    · have hs := bdd_size l[i] k2 (by omega)
      have hr : (boundOf bs c0 c4 c5 l[i]).f2 = mn ((rd_T37 bs l[i].f1[0]).f2 * l[i].f6) 1099511627776 := by
        unfold boundOf rateOf
        dsimp only
        rw [if_neg e0', if_neg e3, if_pos e4, q0]
      left
      rw [hr]
      have hj2 : j = 0 := by
        unfold ins at m2
        rw [if_neg e0', if_neg (by omega)] at m2
        omega
      subst hj2
      exact le_mn (mul_ge (by omega) hs.1) p0.2
    by_cases e6 : l[i].f0 = 6
    · have l1 := ins2 m2 (by omega)
      have a1 := okIn_mem m3 (List.getElem_mem l1)
      have p1 := ko _ a1.1 a1.2
      have q1 : rd l[i].f1 1 = l[i].f1[1] := e 1 l1
      have hb := bdd_join l[i] k2 e6
      have hr : (boundOf bs c0 c4 c5 l[i]).f2 = mn (mn ((rd_T37 bs l[i].f1[0]).f2 * (rd_T37 bs l[i].f1[1]).f2) 1099511627776 * (l[i].f10 + l[i].f11 + 2)) 1099511627776 := by
        unfold boundOf rateOf
        dsimp only
        rw [if_neg e0', if_neg e3, if_neg e4, if_pos e6, q0, q1]
      left
      rw [hr]
      have g0 := mul_ge (show 0 ≤ (rd_T37 bs l[i].f1[0]).f2 by omega) p1.1
      have g1 : (rd_T37 bs l[i].f1[1]).f2 ≤ (rd_T37 bs l[i].f1[0]).f2 * (rd_T37 bs l[i].f1[1]).f2 := by
        rw [Int.mul_comm]
        exact mul_ge (by omega) p0.1
      have g2 := mul_ge (show 0 ≤ mn ((rd_T37 bs l[i].f1[0]).f2 * (rd_T37 bs l[i].f1[1]).f2) 1099511627776 from le_mn (by omega) (by omega)) (show 1 ≤ l[i].f10 + l[i].f11 + 2 by omega)
      have hj2 : j = 0 ∨ j = 1 := by omega
      rcases hj2 with rfl | rfl
      · exact le_mn (Int.le_trans (le_mn g0 p0.2) g2) p0.2
      · exact le_mn (Int.le_trans (le_mn g1 p1.2) g2) p1.2
    have hr : (boundOf bs c0 c4 c5 l[i]).f2 = (rd_T37 bs l[i].f1[0]).f2 := by
      unfold boundOf rateOf
      dsimp only
      rw [if_neg e0', if_neg e3, if_neg e4, if_neg e6, q0]
    rw [hr]
    by_cases hj2 : j = 0
    · subst hj2
      exact Or.inl (Int.le_refl _)
    · right
      refine ⟨?_, hj2⟩
      unfold ins at m2
      rw [if_neg e0'] at m2
      split at m2 <;> omega
theorem st_pos {bs : List S37} {i c5 o : Int} (h : pre i bs) (hc : 1 ≤ c5) (ho : 0 ≤ o) : ∀ (l : List Int) (s : Int), okIn i l = true → 0 ≤ s → (1 ≤ s ∨ l ≠ []) → 1 ≤ stOf bs c5 o l s
  | [], s, _, _, hs => by
    rcases hs with hs | hs
    · exact hs
    · exact absurd rfl hs
  | x :: l, s, hl, h0, _ => by
    have hx := okIn_mem hl List.mem_cons_self
    have hk := pre_at h hx.1 hx.2
    have h1 : 1 ≤ (rd_T37 bs x).f2 * (c5 + (rd_T37 bs x).f1 + o) := mul_pos1 hk.2.2.1.1 (by have := hk.2.1.1; omega)
    have h2 := le_mn h1 (show (1 : Int) ≤ 1099511627776 by omega)
    have h3 := le_mn (show (1 : Int) ≤ s + mn ((rd_T37 bs x).f2 * (c5 + (rd_T37 bs x).f1 + o)) 1099511627776 by omega) (show (1 : Int) ≤ 1099511627776 by omega)
    exact st_pos h hc ho l _ (by rw [okIn_cons] at hl; exact (Bool.and_eq_true_iff.1 hl).2) (by dsimp only; omega) (Or.inl h3)
theorem acc_state {l : List S44} {c0 c1 c2 c3 c4 c5 : Int} {bs : List S37} (A : Acc l c0 c1 c2 c3 c4 c5 bs) {i : Nat} (hi : i < l.length) : ((rd_T37 bs (i : Int)).f3 == 0) = decide (l[i].f0 ≤ 3) := by
  obtain ⟨k1, k2, k3, k4, k5, k6⟩ := A.node i hi
  obtain ⟨m1, m2, m3⟩ := node_ins k1
  have w := own_range l[i]
  have hr := A.right
  unfold rightC at hr
  rw [k3]
  by_cases h : 4 ≤ l[i].f0
  · have : 1 ≤ stOf bs c5 (ownB l[i]) l[i].f1 0 := by
      refine st_pos A.pre (by omega) w.1 l[i].f1 0 ?_ (Int.le_refl _) (Or.inr ?_)
      · refine List.all_eq_true.2 fun x hx => ?_
        have := okIn_mem m3 hx
        exact decide_eq_true (by omega)
      · intro e
        have := ins1 m2 (by omega)
        rw [e] at this
        simp at this
    unfold boundOf
    dsimp only
    rw [if_pos h, decide_eq_false (by omega)]
    simp only [beq_eq_false_iff_ne, ne_eq]
    omega
  · unfold boundOf
    dsimp only
    rw [if_neg h, decide_eq_true (by omega)]
    rfl
theorem Paths_l1 {l : List S44} {c0 c1 c2 c3 c4 c5 : Int} {bs : List S37} (A : Acc l c0 c1 c2 c3 c4 c5 bs) (F : List S95) {i : Nat} (hi : i < l.length) (rest : Ev (fun k => erratalaw20_BoundsPaths.l0 k true bs ((i + 1 : Nat) : Int) F l) true) :
    ∀ d j : Nat, j + d = l[i].f1.length → Ev (fun k => erratalaw20_BoundsPaths.l1 k true bs (i : Int) (j : Int) F l) true
  | 0, j, hj => by
    have hw := well_len A.well
    refine Ev.step (fun k => ?_) rest
    simp only [erratalaw20_BoundsPaths.l1]
    rw [if_pos (by omega), if_pos (by omega), rd44_at hi, if_neg (by omega), wrap_id (by omega) (by omega), cast_succ]
  | d + 1, j, hj => by
    have hw := well_len A.well
    obtain ⟨k1, k2, k3, k4, k5, k6⟩ := A.node i hi
    obtain ⟨m1, m2, m3⟩ := node_ins k1
    have il := ins_le l[i].f0
    have hjl : j < l[i].f1.length := by omega
    obtain ⟨hx, h0, h1, h2⟩ := acc_in A hi hjl
    have hb := A.len
    have ih := Paths_l1 A F hi rest d (j + 1) (by omega)
    refine Ev.step (f := fun k => erratalaw20_BoundsPaths.j3 k true bs (i : Int) (j : Int) false F l) (fun k => ?_) (Ev.step (fun k => ?_) ih)
    · simp only [erratalaw20_BoundsPaths.l1]
      rw [if_pos (by omega), if_pos (by omega), rd44_at hi, if_pos (by omega), if_pos (by omega), rd_at hjl, if_pos hx.1, if_pos (by omega), if_pos (by omega), if_neg (by omega), if_neg (by omega)]
      by_cases hr : (rd_T37 bs (i : Int)).f2 < (rd_T37 bs l[i].f1[j]).f2
      · have h7 : l[i].f0 = 7 ∧ j ≠ 0 := by
          rcases h2 with h2 | h2
          · omega
          · exact h2
        rw [if_pos hr, if_pos h7.1, show ((j : Int) == 0) = false by simp; omega]
      · rw [if_neg hr]
    · simp only [erratalaw20_BoundsPaths.j3]
      rw [if_neg (by decide), wrap_id (by omega) (by omega), cast_succ]
theorem Paths_l0 {l : List S44} {c0 c1 c2 c3 c4 c5 : Int} {bs : List S37} (A : Acc l c0 c1 c2 c3 c4 c5 bs) (F : List S95) : ∀ d i : Nat, i + d = l.length → Ev (fun k => erratalaw20_BoundsPaths.l0 k true bs (i : Int) F l) true
  | 0, i, hi => by
    refine Ev.step (fun k => ?_) (Ev.now _)
    have := A.len
    simp only [erratalaw20_BoundsPaths.l0]
    rw [if_neg (by omega)]
  | d + 1, i, hi => by
    have hb := A.len
    have hil : i < l.length := by omega
    obtain ⟨k1, k2, k3, k4, k5, k6⟩ := A.node i hil
    have ih := Paths_l0 A F d (i + 1) (by omega)
    have hs := acc_state A hil
    refine Ev.step (f := fun k => (erratalaw20_path.f k F l (i : Int)).bind fun bt251 => (if 0 ≤ (i : Int) then (if ((rd_T37 bs (i : Int)).f0) = bt251.1 then (if ((rd_T37 bs (i : Int)).f1) = bt251.2 then (if ((rd_T37 bs (i : Int)).f2) < 1 then (erratalaw20_BoundsPaths.j1 k true bs (i : Int) true F l) else (if (i : Int) < (l.length : Int) then (erratalaw20_BoundsPaths.j1 k true bs (i : Int) ((((rd_T37 bs (i : Int)).f3) == 0) != (decide (((rd_T44 l (i : Int)).f0) ≤ 3))) F l) else (none))) else (erratalaw20_BoundsPaths.j1 k true bs (i : Int) true F l)) else (erratalaw20_BoundsPaths.j1 k true bs (i : Int) true F l)) else (none))) (fun k => ?_) (Ev.bind (path_ev A F i hil) ?_)
    · simp only [erratalaw20_BoundsPaths.l0]
      rw [if_pos (by omega)]
    · refine Ev.congr (f := fun k => erratalaw20_BoundsPaths.j1 k true bs (i : Int) false F l) (fun k => ?_) (Ev.step (fun k => ?_) (Paths_l1 A F hil ih l[i].f1.length 0 (by omega)))
      · dsimp only
        rw [if_pos (by omega), if_pos rfl, if_pos rfl, if_neg (by have := k4.2.2.1.1; omega), if_pos (by omega), rd44_at hil, hs, bne_self_eq_false]
      · simp only [erratalaw20_BoundsPaths.j1]
        rfl
theorem ana_fail {c0 c4 c5 : Int} : ∀ (r : List S44) (i : Int) (bs : List S37), (ana c0 c4 c5 i bs r).2.2 ≠ 0 → (ana c0 c4 c5 i bs r).1 = []
  | [], i, bs, h => absurd rfl h
  | n :: r, i, bs, h => by
    rw [ana] at h ⊢
    by_cases hb : bdd n = true
    · rw [if_pos hb] at h ⊢
      by_cases hm : 1099511627776 ≤ (boundOf bs c0 c4 c5 n).f2 ∨ 1099511627776 ≤ (boundOf bs c0 c4 c5 n).f3
      · rw [if_pos hm]
      · rw [if_neg hm] at h ⊢
        exact ana_fail r _ _ h
    · rw [if_neg hb]
theorem analyze_fail {l : List S44} {c0 c1 c2 c3 c4 c5 : Int} (h : (analyze l c0 c1 c2 c3 c4 c5).2.2 ≠ 0) : (analyze l c0 c1 c2 c3 c4 c5).1 = [] := by
  unfold analyze at h ⊢
  by_cases hc : rightC c0 c1 c2 c3 c4 c5 ∧ well l = true
  · rw [if_pos hc] at h ⊢
    exact ana_fail _ _ _ h
  · rw [if_neg hc]
theorem Paths_ev (l : List S44) (F : List S95) (hl : l.length ≤ 9223372036854775807) (hin : ∀ n ∈ l, n.f1.length ≤ 9223372036854775807) (c0 c1 c2 c3 c4 c5 : Int) :
    Ev (fun k => erratalaw20_BoundsPaths.f k F l c0 c1 c2 c3 c4 c5) true := by
  refine Ev.congr (fun k => by unfold erratalaw20_BoundsPaths.f; rfl) (Ev.bind small_ev (Ev.bind (few_ev l F hl) ?_))
  by_cases hf : few l = true
  · refine Ev.congr (fun k => by rw [if_pos hf]) (Ev.bind (Ana_ev l F hl hin c0 c1 c2 c3 c4 c5) ?_)
    by_cases hz : (analyze l c0 c1 c2 c3 c4 c5).2.2 = 0
    · have A : Acc l c0 c1 c2 c3 c4 c5 (analyze l c0 c1 c2 c3 c4 c5).1 := analyze_acc (e := (analyze l c0 c1 c2 c3 c4 c5).2.1) (by rw [← hz])
      refine Ev.congr (fun k => by rw [if_pos hz, if_pos (by rw [A.len])]; rfl) (Paths_l0 A F l.length 0 (by omega))
    · refine Ev.congr (fun k => by rw [if_neg hz, if_pos rfl, analyze_fail hz]; rfl) (Ev.now _)
  · exact Ev.congr (fun k => by rw [if_neg hf]) (Ev.now _)
theorem Paths_true (l : List S44) (F : List S95) (hl : l.length ≤ 9223372036854775807) (hin : ∀ n ∈ l, n.f1.length ≤ 9223372036854775807) (c0 c1 c2 c3 c4 c5 : Int) : ∃ k, erratalaw20_BoundsPaths.f k F l c0 c1 c2 c3 c4 c5 = some true := (Paths_ev l F hl hin c0 c1 c2 c3 c4 c5).rounds
end Go.Proofs.Yteoljddobfnfiaa.Pure
end
