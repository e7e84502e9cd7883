/- Part 3 of a proof: texts of this claim, joined by a program of this session's work; what is proved stands in the last part. No condition. -/
import Derived.Test.YteoljddobfnfiaaKB2
section
namespace Go.Proofs.Yteoljddobfnfiaa.PB
open Go.RowKit Go.Proofs.YteoljddobfnfiaaW.PrintWords Go.Proofs.YteoljddobfnfiaaW.PrintLast Go.Proofs.YteoljddobfnfiaaW.PrintMore
attribute [local go_sem] max2_int min2_int max_two min_two max_three min_three max_four min_four
attribute [local go_sem ↓ high] Go.Proofs.Yteoljddobfnfiaa.My.ld44_eq Go.Proofs.Yteoljddobfnfiaa.My.st44_eq Go.Proofs.Yteoljddobfnfiaa.My.ld27_eq Go.Proofs.Yteoljddobfnfiaa.My.st27_eq Go.Proofs.Yteoljddobfnfiaa.My.ld37_eq Go.Proofs.Yteoljddobfnfiaa.My.st37_eq Go.Proofs.Yteoljddobfnfiaa.My.ld65_eq Go.Proofs.Yteoljddobfnfiaa.My.st65_eq
attribute [local go_sem high] Go.Proofs.Yteoljddobfnfiaa.My.ld44_run Go.Proofs.Yteoljddobfnfiaa.My.st44_run Go.Proofs.Yteoljddobfnfiaa.My.ld27_run Go.Proofs.Yteoljddobfnfiaa.My.st27_run Go.Proofs.Yteoljddobfnfiaa.My.ld37_run Go.Proofs.Yteoljddobfnfiaa.My.st37_run Go.Proofs.Yteoljddobfnfiaa.My.ld65_run Go.Proofs.Yteoljddobfnfiaa.My.st65_run
open Go.Proofs.Yteoljddobfnfiaa.My
attribute [local go_sem] cell_map run_store_fnV one_int one_bool one_string one_slice one_fnV
set_option linter.unusedVariables false
set_option linter.unusedSimpArgs false

mutual
def bounds_Well.l0 : Nat → List (S44) → Int → Int → List (S95) → List (S44) → Option (Bool)
  | 0, _, _, _, _, _ => none
  | k + 1, x10, x11, x12, x132000, x132001 => if x12 < x11 then (if 0 ≤ x12 then (if x12 < (x10.length : Int) then ((bounds_of.f ((rd_T44 x10 x12).f0)).bind fun bt135 => (if bt135.2.2.2.2 = true then (bounds_Well.j1 k x12 x10 x11 x12 ((((rd_T44 x10 x12).f1).length : Int) != bt135.1) x132000 x132001 ((rd_T44 x10 x12).f0) ((rd_T44 x10 x12).f1) ((rd_T44 x10 x12).f2) ((rd_T44 x10 x12).f3) ((rd_T44 x10 x12).f4) ((rd_T44 x10 x12).f5) ((rd_T44 x10 x12).f6) ((rd_T44 x10 x12).f7) ((rd_T44 x10 x12).f8) ((rd_T44 x10 x12).f9) ((rd_T44 x10 x12).f10) ((rd_T44 x10 x12).f11) ((rd_T44 x10 x12).f12) ((rd_T44 x10 x12).f13) ((rd_T44 x10 x12).f14) ((rd_T44 x10 x12).f15)) else (bounds_Well.j1 k x12 x10 x11 x12 true x132000 x132001 ((rd_T44 x10 x12).f0) ((rd_T44 x10 x12).f1) ((rd_T44 x10 x12).f2) ((rd_T44 x10 x12).f3) ((rd_T44 x10 x12).f4) ((rd_T44 x10 x12).f5) ((rd_T44 x10 x12).f6) ((rd_T44 x10 x12).f7) ((rd_T44 x10 x12).f8) ((rd_T44 x10 x12).f9) ((rd_T44 x10 x12).f10) ((rd_T44 x10 x12).f11) ((rd_T44 x10 x12).f12) ((rd_T44 x10 x12).f13) ((rd_T44 x10 x12).f14) ((rd_T44 x10 x12).f15)))) else (none)) else (none)) else ((bounds_within.f (x132001.length : Int) 1 40).bind fun t132 => (some t132))
def bounds_Well.j1 : Nat → Int → List (S44) → Int → Int → Bool → List (S95) → List (S44) → Int → List Int → ByteArray → Int → List (S93) → Int → Int → Int → List Int → List Int → Int → Int → Int → List (S97) → List (S99) → List (S50) → Option (Bool)
  | 0, _, _, _, _, _, _, _, _, _, _, _, _, _, _, _, _, _, _, _, _, _, _, _ => none
  | k + 1, x3, x10, x11, x12, x32, x132000, x132001, x135000, x135001, x135002, x135003, x135004, x135005, x135006, x135007, x135008, x135009, x135010, x135011, x135012, x135013, x135014, x135015 => if x32 = true then (some false) else (bounds_Well.l1 k x3 x10 x11 x12 x135001 (x135001.length : Int) 0 x132000 x132001)
def bounds_Well.l1 : Nat → Int → List (S44) → Int → Int → List Int → Int → Int → List (S95) → List (S44) → Option (Bool)
  | 0, _, _, _, _, _, _, _, _, _ => none
  | k + 1, x3, x10, x11, x12, x34, x35, x36, x132000, x132001 => if x36 < x35 then (if 0 ≤ x36 then (if x36 < (x34.length : Int) then ((bounds_within.f (rd x34 x36) 0 (wrap64 (x3 - 1))).bind fun t142 => (if t142 = true then (bounds_Well.l1 k x3 x10 x11 x12 x34 x35 (wrap64 (x36 + 1)) x132000 x132001) else (some false))) else (none)) else (none)) else (bounds_Well.l0 k x10 x11 (wrap64 (x12 + 1)) x132000 x132001)
end
def bounds_Well.f (k : Nat) (l0_0 : List (S95)) (l0_1 : List (S44)) : Option (Bool) := bounds_Well.l0 k l0_1 (l0_1.length : Int) 0 l0_0 l0_1
theorem bounds_Well.mono_l : ∀ k, (∀ y0 y1 y2 y3 y4, LeO (bounds_Well.l0 k y0 y1 y2 y3 y4) (bounds_Well.l0 (k + 1) y0 y1 y2 y3 y4)) ∧ (∀ y0 y1 y2 y3 y4 y5 y6 y7 y8 y9 y10 y11 y12 y13 y14 y15 y16 y17 y18 y19 y20 y21 y22, LeO (bounds_Well.j1 k y0 y1 y2 y3 y4 y5 y6 y7 y8 y9 y10 y11 y12 y13 y14 y15 y16 y17 y18 y19 y20 y21 y22) (bounds_Well.j1 (k + 1) y0 y1 y2 y3 y4 y5 y6 y7 y8 y9 y10 y11 y12 y13 y14 y15 y16 y17 y18 y19 y20 y21 y22)) ∧ (∀ y0 y1 y2 y3 y4 y5 y6 y7 y8, LeO (bounds_Well.l1 k y0 y1 y2 y3 y4 y5 y6 y7 y8) (bounds_Well.l1 (k + 1) y0 y1 y2 y3 y4 y5 y6 y7 y8))
  | 0 => ⟨fun _ _ _ _ _ r h => by simp [bounds_Well.l0] at h, fun _ _ _ _ _ _ _ _ _ _ _ _ _ _ _ _ _ _ _ _ _ _ _ r h => by simp [bounds_Well.j1] at h, fun _ _ _ _ _ _ _ _ _ r h => by simp [bounds_Well.l1] at h⟩
  | k + 1 => by
    obtain ⟨ih0, ih1, ih2⟩ := bounds_Well.mono_l k
    refine ⟨?_, ?_, ?_⟩
    · intro y0 y1 y2 y3 y4
      unfold bounds_Well.l0
      repeat' first
      | (with_reducible first | exact ih0 _ _ _ _ _ | exact ih1 _ _ _ _ _ _ _ _ _ _ _ _ _ _ _ _ _ _ _ _ _ _ _ | exact ih2 _ _ _ _ _ _ _ _ _ | exact LeO.refl _ | exact LeO.none _ | refine LeO.ite ?_ ?_ | refine LeO.bind ?_ (fun _ => ?_))
      | exact ih0 _ _ _ _ _ | exact ih1 _ _ _ _ _ _ _ _ _ _ _ _ _ _ _ _ _ _ _ _ _ _ _ | exact ih2 _ _ _ _ _ _ _ _ _ | exact LeO.none _ | refine LeO.ite ?_ ?_ | refine LeO.bind ?_ (fun _ => ?_)
    · intro y0 y1 y2 y3 y4 y5 y6 y7 y8 y9 y10 y11 y12 y13 y14 y15 y16 y17 y18 y19 y20 y21 y22
      unfold bounds_Well.j1
      repeat' first
      | (with_reducible first | exact ih0 _ _ _ _ _ | exact ih1 _ _ _ _ _ _ _ _ _ _ _ _ _ _ _ _ _ _ _ _ _ _ _ | exact ih2 _ _ _ _ _ _ _ _ _ | exact LeO.refl _ | exact LeO.none _ | refine LeO.ite ?_ ?_ | refine LeO.bind ?_ (fun _ => ?_))
      | exact ih0 _ _ _ _ _ | exact ih1 _ _ _ _ _ _ _ _ _ _ _ _ _ _ _ _ _ _ _ _ _ _ _ | exact ih2 _ _ _ _ _ _ _ _ _ | exact LeO.none _ | refine LeO.ite ?_ ?_ | refine LeO.bind ?_ (fun _ => ?_)
    · intro y0 y1 y2 y3 y4 y5 y6 y7 y8
      unfold bounds_Well.l1
      repeat' first
      | (with_reducible first | exact ih0 _ _ _ _ _ | exact ih1 _ _ _ _ _ _ _ _ _ _ _ _ _ _ _ _ _ _ _ _ _ _ _ | exact ih2 _ _ _ _ _ _ _ _ _ | exact LeO.refl _ | exact LeO.none _ | refine LeO.ite ?_ ?_ | refine LeO.bind ?_ (fun _ => ?_))
      | exact ih0 _ _ _ _ _ | exact ih1 _ _ _ _ _ _ _ _ _ _ _ _ _ _ _ _ _ _ _ _ _ _ _ | exact ih2 _ _ _ _ _ _ _ _ _ | exact LeO.none _ | refine LeO.ite ?_ ?_ | refine LeO.bind ?_ (fun _ => ?_)
theorem bounds_Well.mono : ∀ a0 a1 k, LeO (bounds_Well.f k a0 a1) (bounds_Well.f (k + 1) a0 a1) := by
  intro a0 a1 k
  obtain ⟨ih0, ih1, ih2⟩ := bounds_Well.mono_l k
  unfold bounds_Well.f
  repeat' first
      | (with_reducible first | exact ih0 _ _ _ _ _ | exact ih1 _ _ _ _ _ _ _ _ _ _ _ _ _ _ _ _ _ _ _ _ _ _ _ | exact ih2 _ _ _ _ _ _ _ _ _ | exact LeO.refl _ | exact LeO.none _ | refine LeO.ite ?_ ?_ | refine LeO.bind ?_ (fun _ => ?_))
      | exact ih0 _ _ _ _ _ | exact ih1 _ _ _ _ _ _ _ _ _ _ _ _ _ _ _ _ _ _ _ _ _ _ _ | exact ih2 _ _ _ _ _ _ _ _ _ | exact LeO.none _ | refine LeO.ite ?_ ?_ | refine LeO.bind ?_ (fun _ => ?_)
set_option maxHeartbeats 8000000 in
set_option maxRecDepth 100000 in
theorem bounds_Well.calls (k : Nat) (A0_0 : Option Addr) (c0_0 : Nat) (l0_0 : List (S95)) (A0_1 : Option Addr) (c0_1 : Nat) (l0_1 : List (S44)) (r : Bool) (w : World) (hr0_0 : Kd.C k95 w A0_0 l0_0.length l0_0) (hc0_0 : l0_0.length ≤ c0_0) (hr0_1 : Kd.C k44 w A0_1 l0_1.length l0_1) (hc0_1 : l0_1.length ≤ c0_1) (h : bounds_Well.f k l0_0 l0_1 = some r) :
    Calls Try.prog 21 #[.agg #[.slice A0_0 l0_0.length c0_0, .slice A0_1 l0_1.length c0_1]] w fun e w' => e = .returned (.bool r) ∧ Below w.heap.size w w' := by
 have hu25 := Try.underlying25
 have hu44 := Try.underlying44
 have hu65 := Try.underlying65
 have HR0_0 := Aside0.mk hr0_0
 have HC0_0 := Aside0.mk hc0_0
 clear hr0_0 hc0_0
 have HR0_1 := Aside0.mk hr0_1
 have HC0_1 := Aside0.mk hc0_1
 clear hr0_1 hc0_1
 have HB := Aside0.mk (Below.refl w.heap.size w)
 have H : (bounds_Well.l0 k l0_1 (l0_1.length : Int) 0 l0_0 l0_1) = some r := h
 clear h
 have H' := Aside0.mk H
 clear H
 go_enter Try.func21, Try.ntmps21
 go_wp2_with (first | ((with_reducible refine gate_dst (N := 1) rfl ?_); (try (refine gate_guard (by rfl) ?_; dsimp only)); refine box_event ?hg (N := 1) ?hd (cs := #[.slice A0_0 l0_0.length c0_0, .slice A0_1 l0_1.length c0_1]) (t := 25) ?hr ?_; (case hd => rfl); (case hg => rfl); (case hr => first | (go_simp; done) | (go_simp; rfl)); intro gb131 hg w2 hbox hb; have n0_ := Aside0.mk (below_stepA hb); have n1_ := Aside0.mk (hbox); have n2_ := Aside0.mk ((by rw [hg]; exact below_sizeA : w.heap.size ≤ gb131)); have n3_ := Aside0.mk ((by rw [hg]; exact below_sizeA : w.heap.size ≤ gb131)); clear HB; have HB := n0_; have BK131 := n1_; have GW131 := n2_; have GE131 := n3_; clear n0_ n1_ n2_ n3_; clear hb hbox hg; obtain ⟨hcz3_0, hcz3_1, hfz3_0, hfz3_1⟩ := blk2 BK131.out))
 go_loopg [12] k (fun kq v12 w' => ∃ (x12_1 : Int), v12 = .int .i64 x12_1 ∧ Aside0 (bounds_Well.l0 kq l0_1 (l0_1.length : Int) x12_1 l0_0 l0_1 = some r) ∧ Aside0 (kq ≤ k) ∧ Aside0 (w'.heap[gb131]? = some (.cells #[(.slice A0_0 l0_0.length c0_0), (.slice A0_1 l0_1.length c0_1)] 25 (0, 0))) ∧ Aside0 (Below w.heap.size w w'))
 case atStart => exact ⟨(0), (by first | rfl | (simp; done) | (simp [*]; done)), H', ⟨Nat.le_refl _⟩, ⟨by (with_reducible repeat (first | refine blk_drewN ?_ _ | refine blk_drew ?_ | refine blk_alloc ?_ _)); exact BK131.out⟩, ⟨by repeat (first | (with_reducible first | exact HB.out | apply below_alloc | apply pw_below_drewN | apply below_drew1 | refine below_set ?_ GE131.out) | exact HB.out)⟩⟩
 case round =>
  clear H'
  try clear c2
  try clear p2
  try clear hcz3_0
  try clear hcz3_1
  try clear hfz3_0
  try clear hfz3_1
  obtain ⟨x12_1, rfl, HA, HK1, BK131, HB⟩ := hrel
  cases gk with
  | zero => exact absurd HA.out (by simp [bounds_Well.l0])
  | succ k1 =>
   have H := HA.out
   clear HA
   simp only [bounds_Well.l0] at H
   by_cases c4 : x12_1 < (l0_1.length : Int)
   ·
    rw [if_pos c4] at H
    have c4b0 : decide (x12_1 < (l0_1.length : Int)) = true := decide_eq_true c4
    clear c4
    by_cases c5 : 0 ≤ x12_1
    ·
     rw [if_pos c5] at H
     have c5b0 : decide (0 ≤ x12_1) = true := decide_eq_true c5
     clear c5
     by_cases c6 : x12_1 < (l0_1.length : Int)
     ·
      rw [if_pos c6] at H
      have c6b0 : decide (x12_1 < (l0_1.length : Int)) = true := decide_eq_true c6
      clear c6
      replace H := Option.bind_eq_some_iff.mp H
      obtain ⟨⟨t135, t136, t137, t138, t139⟩, A70, H⟩ := H
      replace H : (if t139 = true then (bounds_Well.j1 k1 x12_1 l0_1 (l0_1.length : Int) x12_1 ((((rd_T44 l0_1 x12_1).f1).length : Int) != t135) l0_0 l0_1 ((rd_T44 l0_1 x12_1).f0) ((rd_T44 l0_1 x12_1).f1) ((rd_T44 l0_1 x12_1).f2) ((rd_T44 l0_1 x12_1).f3) ((rd_T44 l0_1 x12_1).f4) ((rd_T44 l0_1 x12_1).f5) ((rd_T44 l0_1 x12_1).f6) ((rd_T44 l0_1 x12_1).f7) ((rd_T44 l0_1 x12_1).f8) ((rd_T44 l0_1 x12_1).f9) ((rd_T44 l0_1 x12_1).f10) ((rd_T44 l0_1 x12_1).f11) ((rd_T44 l0_1 x12_1).f12) ((rd_T44 l0_1 x12_1).f13) ((rd_T44 l0_1 x12_1).f14) ((rd_T44 l0_1 x12_1).f15)) else (bounds_Well.j1 k1 x12_1 l0_1 (l0_1.length : Int) x12_1 true l0_0 l0_1 ((rd_T44 l0_1 x12_1).f0) ((rd_T44 l0_1 x12_1).f1) ((rd_T44 l0_1 x12_1).f2) ((rd_T44 l0_1 x12_1).f3) ((rd_T44 l0_1 x12_1).f4) ((rd_T44 l0_1 x12_1).f5) ((rd_T44 l0_1 x12_1).f6) ((rd_T44 l0_1 x12_1).f7) ((rd_T44 l0_1 x12_1).f8) ((rd_T44 l0_1 x12_1).f9) ((rd_T44 l0_1 x12_1).f10) ((rd_T44 l0_1 x12_1).f11) ((rd_T44 l0_1 x12_1).f12) ((rd_T44 l0_1 x12_1).f13) ((rd_T44 l0_1 x12_1).f14) ((rd_T44 l0_1 x12_1).f15))) = some r := H
      have A7 := Aside0.mk A70
      clear A70
      have HC8 := Aside0.mk H
      clear H
      have p133 : 0 ≤ (x12_1 : Int) := of_decide_eq_true (by first | (with_reducible assumption) | assumption)
      have q133 : x12_1 < (l0_1.length : Int) := of_decide_eq_true (by first | (with_reducible assumption) | assumption)
      obtain ⟨ad133, A133_1, c133_1, A133_4, c133_4, A133_8, c133_8, A133_9, c133_9, A133_13, c133_13, A133_14, c133_14, A133_15, c133_15, e133, hx133_0, hx133_1, hx133_2, hx133_3, hx133_4, hx133_5, hx133_6, hx133_7, hx133_8, hx133_9, hx133_10, hx133_11, hx133_12, hx133_13, hx133_14, hx133_15, hl133_1, hi133_1, hl133_4, hi133_4, hl133_8, hi133_8, hl133_9, hi133_9, hl133_13, hi133_13, hl133_14, hi133_14, hl133_15, hi133_15⟩ := at_T44 HR0_1.out x12_1 p133 q133
      cases e133
      replace hx133_0 := (HB.out.cell (World.block_lt_of_cell? w _ hx133_0)).trans hx133_0
      replace hx133_1 := (HB.out.cell (World.block_lt_of_cell? w _ hx133_1)).trans hx133_1
      replace hx133_2 := (HB.out.cell (World.block_lt_of_cell? w _ hx133_2)).trans hx133_2
      replace hx133_3 := (HB.out.cell (World.block_lt_of_cell? w _ hx133_3)).trans hx133_3
      replace hx133_4 := (HB.out.cell (World.block_lt_of_cell? w _ hx133_4)).trans hx133_4
      replace hx133_5 := (HB.out.cell (World.block_lt_of_cell? w _ hx133_5)).trans hx133_5
      replace hx133_6 := (HB.out.cell (World.block_lt_of_cell? w _ hx133_6)).trans hx133_6
      replace hx133_7 := (HB.out.cell (World.block_lt_of_cell? w _ hx133_7)).trans hx133_7
      replace hx133_8 := (HB.out.cell (World.block_lt_of_cell? w _ hx133_8)).trans hx133_8
      replace hx133_9 := (HB.out.cell (World.block_lt_of_cell? w _ hx133_9)).trans hx133_9
      replace hx133_10 := (HB.out.cell (World.block_lt_of_cell? w _ hx133_10)).trans hx133_10
      replace hx133_11 := (HB.out.cell (World.block_lt_of_cell? w _ hx133_11)).trans hx133_11
      replace hx133_12 := (HB.out.cell (World.block_lt_of_cell? w _ hx133_12)).trans hx133_12
      replace hx133_13 := (HB.out.cell (World.block_lt_of_cell? w _ hx133_13)).trans hx133_13
      replace hx133_14 := (HB.out.cell (World.block_lt_of_cell? w _ hx133_14)).trans hx133_14
      replace hx133_15 := (HB.out.cell (World.block_lt_of_cell? w _ hx133_15)).trans hx133_15
      have HR133_1 := Aside0.mk hi133_1
      have HC133_1 := Aside0.mk hl133_1
      clear hi133_1 hl133_1
      have HR133_4 := Aside0.mk hi133_4
      have HC133_4 := Aside0.mk hl133_4
      clear hi133_4 hl133_4
      have HR133_8 := Aside0.mk hi133_8
      have HC133_8 := Aside0.mk hl133_8
      clear hi133_8 hl133_8
      have HR133_9 := Aside0.mk hi133_9
      have HC133_9 := Aside0.mk hl133_9
      clear hi133_9 hl133_9
      have HR133_13 := Aside0.mk hi133_13
      have HC133_13 := Aside0.mk hl133_13
      clear hi133_13 hl133_13
      have HR133_14 := Aside0.mk hi133_14
      have HC133_14 := Aside0.mk hl133_14
      clear hi133_14 hl133_14
      have HR133_15 := Aside0.mk hi133_15
      have HC133_15 := Aside0.mk hl133_15
      clear hi133_15 hl133_15
      replace p133 := eq_true p133
      replace q133 := eq_true q133
      go_upto_region 5 with (first | ((with_reducible refine gate_dst (N := 4) rfl ?_); (try (refine gate_guard (by rfl) ?_; dsimp only)); refine box_event ?hg (N := 4) ?hd (cs := #[.int .i64 0, .slice none 0 0, .string (⟨#[]⟩ : ByteArray), .int .i64 0, .slice none 0 0, .int .i64 0, .int .i64 0, .int .i64 0, .slice none 0 0, .slice none 0 0, .int .i64 0, .int .i64 0, .int .i64 0, .slice none 0 0, .slice none 0 0, .slice none 0 0]) (t := 44) ?hr ?_; (case hd => rfl); (case hg => rfl); (case hr => first | (go_simp; done) | (go_simp; rfl)); intro gb134 hg w9 hbox hb; have n0_ := Aside0.mk (blk_keepA BK131.out hb); have n1_ := Aside0.mk (below_stepA hb); have n2_ := Aside0.mk (hbox); have n3_ := Aside0.mk ((by rw [hg]; exact below_sizeA : w.heap.size ≤ gb134)); have n4_ := Aside0.mk ((by rw [hg]; exact below_sizeA : w.heap.size ≤ gb134)); have n5_ := Aside0.mk ((by rw [hg]; exact Nat.ne_of_lt (blk_ltKA BK131.out) : gb131 ≠ gb134)); have n6_ := Aside0.mk ((by rw [hg]; exact Nat.ne_of_gt (blk_ltKA BK131.out) : gb134 ≠ gb131)); clear BK131; clear HB; have BK131 := n0_; have HB := n1_; have BK134 := n2_; have GW134 := n3_; have GE134 := n4_; have NB131_134 := n5_; have NB134_131 := n6_; clear n0_ n1_ n2_ n3_ n4_ n5_ n6_; clear hb hbox hg; have hnb10 := NB134_131.out; have hnc10 := NB131_134.out; obtain ⟨hcz11_0, hcz11_1, hcz11_2, hcz11_3, hcz11_4, hcz11_5, hcz11_6, hcz11_7, hcz11_8, hcz11_9, hcz11_10, hcz11_11, hcz11_12, hcz11_13, hcz11_14, hcz11_15, hfz11_0, hfz11_1, hfz11_2, hfz11_3, hfz11_4, hfz11_5, hfz11_6, hfz11_7, hfz11_8, hfz11_9, hfz11_10, hfz11_11, hfz11_12, hfz11_13, hfz11_14, hfz11_15⟩ := blk16 BK134.out) | ((with_reducible refine gate_callee (f := 27) rfl ?_); refine goesL_ (some 20) rfl rfl Try.func27 (by kernel_rfl) rfl #[.int .i64 ((rd_T44 l0_1 x12_1).f0)] rfl (by (try simp only [List.map_toArray, List.map_cons, List.map_nil]); first | done | rfl | (simp only [List.length_drop, List.length_take]; rfl)) ?_; (with_reducible refine (bounds_of.calls ((rd_T44 l0_1 x12_1).f0) t135 t136 t137 t138 t139 _ A7.out).mono ?_); rintro e w12 ⟨rfl, hb⟩; refine ⟨_, rfl, ?_⟩; have n0_ := Aside0.mk (blk_keep BK131.out (fun h_ => by (with_reducible repeat (first | refine blk_drewN ?_ _ | refine blk_drew ?_ | refine blk_alloc ?_ _)); refine blk_far ?_ NB131_134.out _; (with_reducible repeat (first | refine blk_drewN ?_ _ | refine blk_drew ?_ | refine blk_alloc ?_ _)); refine blk_far ?_ NB131_134.out _; (with_reducible repeat (first | refine blk_drewN ?_ _ | refine blk_drew ?_ | refine blk_alloc ?_ _)); refine blk_far ?_ NB131_134.out _; (with_reducible repeat (first | refine blk_drewN ?_ _ | refine blk_drew ?_ | refine blk_alloc ?_ _)); refine blk_far ?_ NB131_134.out _; (with_reducible repeat (first | refine blk_drewN ?_ _ | refine blk_drew ?_ | refine blk_alloc ?_ _)); refine blk_far ?_ NB131_134.out _; (with_reducible repeat (first | refine blk_drewN ?_ _ | refine blk_drew ?_ | refine blk_alloc ?_ _)); refine blk_far ?_ NB131_134.out _; (with_reducible repeat (first | refine blk_drewN ?_ _ | refine blk_drew ?_ | refine blk_alloc ?_ _)); refine blk_far ?_ NB131_134.out _; (with_reducible repeat (first | refine blk_drewN ?_ _ | refine blk_drew ?_ | refine blk_alloc ?_ _)); refine blk_far ?_ NB131_134.out _; (with_reducible repeat (first | refine blk_drewN ?_ _ | refine blk_drew ?_ | refine blk_alloc ?_ _)); refine blk_far ?_ NB131_134.out _; (with_reducible repeat (first | refine blk_drewN ?_ _ | refine blk_drew ?_ | refine blk_alloc ?_ _)); refine blk_far ?_ NB131_134.out _; (with_reducible repeat (first | refine blk_drewN ?_ _ | refine blk_drew ?_ | refine blk_alloc ?_ _)); refine blk_far ?_ NB131_134.out _; (with_reducible repeat (first | refine blk_drewN ?_ _ | refine blk_drew ?_ | refine blk_alloc ?_ _)); refine blk_far ?_ NB131_134.out _; (with_reducible repeat (first | refine blk_drewN ?_ _ | refine blk_drew ?_ | refine blk_alloc ?_ _)); refine blk_far ?_ NB131_134.out _; (with_reducible repeat (first | refine blk_drewN ?_ _ | refine blk_drew ?_ | refine blk_alloc ?_ _)); refine blk_far ?_ NB131_134.out _; (with_reducible repeat (first | refine blk_drewN ?_ _ | refine blk_drew ?_ | refine blk_alloc ?_ _)); refine blk_far ?_ NB131_134.out _; (with_reducible repeat (first | refine blk_drewN ?_ _ | refine blk_drew ?_ | refine blk_alloc ?_ _)); refine blk_far ?_ NB131_134.out _; (with_reducible repeat (first | refine blk_drewN ?_ _ | refine blk_drew ?_ | refine blk_alloc ?_ _)); exact h_) hb); have n1_ := Aside0.mk (blk_below (g := gb134) (o := .cells #[.int .i64 ((rd_T44 l0_1 x12_1).f0), .slice A133_1 ((rd_T44 l0_1 x12_1).f1).length c133_1, .string ((rd_T44 l0_1 x12_1).f2), .int .i64 ((rd_T44 l0_1 x12_1).f3), .slice A133_4 ((rd_T44 l0_1 x12_1).f4).length c133_4, .int .i64 ((rd_T44 l0_1 x12_1).f5), .int .i64 ((rd_T44 l0_1 x12_1).f6), .int .i64 ((rd_T44 l0_1 x12_1).f7), .slice A133_8 ((rd_T44 l0_1 x12_1).f8).length c133_8, .slice A133_9 ((rd_T44 l0_1 x12_1).f9).length c133_9, .int .i64 ((rd_T44 l0_1 x12_1).f10), .int .i64 ((rd_T44 l0_1 x12_1).f11), .int .i64 ((rd_T44 l0_1 x12_1).f12), .slice A133_13 ((rd_T44 l0_1 x12_1).f13).length c133_13, .slice A133_14 ((rd_T44 l0_1 x12_1).f14).length c133_14, .slice A133_15 ((rd_T44 l0_1 x12_1).f15).length c133_15] 44 (0, 0)) (by (with_reducible repeat (first | refine blk_drewN ?_ _ | refine blk_drew ?_ | refine blk_alloc ?_ _)); refine blk_put (cs := #[.int .i64 ((rd_T44 l0_1 x12_1).f0), .slice A133_1 ((rd_T44 l0_1 x12_1).f1).length c133_1, .string ((rd_T44 l0_1 x12_1).f2), .int .i64 ((rd_T44 l0_1 x12_1).f3), .slice A133_4 ((rd_T44 l0_1 x12_1).f4).length c133_4, .int .i64 ((rd_T44 l0_1 x12_1).f5), .int .i64 ((rd_T44 l0_1 x12_1).f6), .int .i64 ((rd_T44 l0_1 x12_1).f7), .slice A133_8 ((rd_T44 l0_1 x12_1).f8).length c133_8, .slice A133_9 ((rd_T44 l0_1 x12_1).f9).length c133_9, .int .i64 ((rd_T44 l0_1 x12_1).f10), .int .i64 ((rd_T44 l0_1 x12_1).f11), .int .i64 ((rd_T44 l0_1 x12_1).f12), .slice A133_13 ((rd_T44 l0_1 x12_1).f13).length c133_13, .slice A133_14 ((rd_T44 l0_1 x12_1).f14).length c133_14, .slice none 0 0]) ?_ 15 _ rfl; (with_reducible repeat (first | refine blk_drewN ?_ _ | refine blk_drew ?_ | refine blk_alloc ?_ _)); refine blk_put (cs := #[.int .i64 ((rd_T44 l0_1 x12_1).f0), .slice A133_1 ((rd_T44 l0_1 x12_1).f1).length c133_1, .string ((rd_T44 l0_1 x12_1).f2), .int .i64 ((rd_T44 l0_1 x12_1).f3), .slice A133_4 ((rd_T44 l0_1 x12_1).f4).length c133_4, .int .i64 ((rd_T44 l0_1 x12_1).f5), .int .i64 ((rd_T44 l0_1 x12_1).f6), .int .i64 ((rd_T44 l0_1 x12_1).f7), .slice A133_8 ((rd_T44 l0_1 x12_1).f8).length c133_8, .slice A133_9 ((rd_T44 l0_1 x12_1).f9).length c133_9, .int .i64 ((rd_T44 l0_1 x12_1).f10), .int .i64 ((rd_T44 l0_1 x12_1).f11), .int .i64 ((rd_T44 l0_1 x12_1).f12), .slice A133_13 ((rd_T44 l0_1 x12_1).f13).length c133_13, .slice none 0 0, .slice none 0 0]) ?_ 14 _ rfl; (with_reducible repeat (first | refine blk_drewN ?_ _ | refine blk_drew ?_ | refine blk_alloc ?_ _)); refine blk_put (cs := #[.int .i64 ((rd_T44 l0_1 x12_1).f0), .slice A133_1 ((rd_T44 l0_1 x12_1).f1).length c133_1, .string ((rd_T44 l0_1 x12_1).f2), .int .i64 ((rd_T44 l0_1 x12_1).f3), .slice A133_4 ((rd_T44 l0_1 x12_1).f4).length c133_4, .int .i64 ((rd_T44 l0_1 x12_1).f5), .int .i64 ((rd_T44 l0_1 x12_1).f6), .int .i64 ((rd_T44 l0_1 x12_1).f7), .slice A133_8 ((rd_T44 l0_1 x12_1).f8).length c133_8, .slice A133_9 ((rd_T44 l0_1 x12_1).f9).length c133_9, .int .i64 ((rd_T44 l0_1 x12_1).f10), .int .i64 ((rd_T44 l0_1 x12_1).f11), .int .i64 ((rd_T44 l0_1 x12_1).f12), .slice none 0 0, .slice none 0 0, .slice none 0 0]) ?_ 13 _ rfl; (with_reducible repeat (first | refine blk_drewN ?_ _ | refine blk_drew ?_ | refine blk_alloc ?_ _)); refine blk_put (cs := #[.int .i64 ((rd_T44 l0_1 x12_1).f0), .slice A133_1 ((rd_T44 l0_1 x12_1).f1).length c133_1, .string ((rd_T44 l0_1 x12_1).f2), .int .i64 ((rd_T44 l0_1 x12_1).f3), .slice A133_4 ((rd_T44 l0_1 x12_1).f4).length c133_4, .int .i64 ((rd_T44 l0_1 x12_1).f5), .int .i64 ((rd_T44 l0_1 x12_1).f6), .int .i64 ((rd_T44 l0_1 x12_1).f7), .slice A133_8 ((rd_T44 l0_1 x12_1).f8).length c133_8, .slice A133_9 ((rd_T44 l0_1 x12_1).f9).length c133_9, .int .i64 ((rd_T44 l0_1 x12_1).f10), .int .i64 ((rd_T44 l0_1 x12_1).f11), .int .i64 0, .slice none 0 0, .slice none 0 0, .slice none 0 0]) ?_ 12 _ rfl; (with_reducible repeat (first | refine blk_drewN ?_ _ | refine blk_drew ?_ | refine blk_alloc ?_ _)); refine blk_put (cs := #[.int .i64 ((rd_T44 l0_1 x12_1).f0), .slice A133_1 ((rd_T44 l0_1 x12_1).f1).length c133_1, .string ((rd_T44 l0_1 x12_1).f2), .int .i64 ((rd_T44 l0_1 x12_1).f3), .slice A133_4 ((rd_T44 l0_1 x12_1).f4).length c133_4, .int .i64 ((rd_T44 l0_1 x12_1).f5), .int .i64 ((rd_T44 l0_1 x12_1).f6), .int .i64 ((rd_T44 l0_1 x12_1).f7), .slice A133_8 ((rd_T44 l0_1 x12_1).f8).length c133_8, .slice A133_9 ((rd_T44 l0_1 x12_1).f9).length c133_9, .int .i64 ((rd_T44 l0_1 x12_1).f10), .int .i64 0, .int .i64 0, .slice none 0 0, .slice none 0 0, .slice none 0 0]) ?_ 11 _ rfl; (with_reducible repeat (first | refine blk_drewN ?_ _ | refine blk_drew ?_ | refine blk_alloc ?_ _)); refine blk_put (cs := #[.int .i64 ((rd_T44 l0_1 x12_1).f0), .slice A133_1 ((rd_T44 l0_1 x12_1).f1).length c133_1, .string ((rd_T44 l0_1 x12_1).f2), .int .i64 ((rd_T44 l0_1 x12_1).f3), .slice A133_4 ((rd_T44 l0_1 x12_1).f4).length c133_4, .int .i64 ((rd_T44 l0_1 x12_1).f5), .int .i64 ((rd_T44 l0_1 x12_1).f6), .int .i64 ((rd_T44 l0_1 x12_1).f7), .slice A133_8 ((rd_T44 l0_1 x12_1).f8).length c133_8, .slice A133_9 ((rd_T44 l0_1 x12_1).f9).length c133_9, .int .i64 0, .int .i64 0, .int .i64 0, .slice none 0 0, .slice none 0 0, .slice none 0 0]) ?_ 10 _ rfl; (with_reducible repeat (first | refine blk_drewN ?_ _ | refine blk_drew ?_ | refine blk_alloc ?_ _)); refine blk_put (cs := #[.int .i64 ((rd_T44 l0_1 x12_1).f0), .slice A133_1 ((rd_T44 l0_1 x12_1).f1).length c133_1, .string ((rd_T44 l0_1 x12_1).f2), .int .i64 ((rd_T44 l0_1 x12_1).f3), .slice A133_4 ((rd_T44 l0_1 x12_1).f4).length c133_4, .int .i64 ((rd_T44 l0_1 x12_1).f5), .int .i64 ((rd_T44 l0_1 x12_1).f6), .int .i64 ((rd_T44 l0_1 x12_1).f7), .slice A133_8 ((rd_T44 l0_1 x12_1).f8).length c133_8, .slice none 0 0, .int .i64 0, .int .i64 0, .int .i64 0, .slice none 0 0, .slice none 0 0, .slice none 0 0]) ?_ 9 _ rfl; (with_reducible repeat (first | refine blk_drewN ?_ _ | refine blk_drew ?_ | refine blk_alloc ?_ _)); refine blk_put (cs := #[.int .i64 ((rd_T44 l0_1 x12_1).f0), .slice A133_1 ((rd_T44 l0_1 x12_1).f1).length c133_1, .string ((rd_T44 l0_1 x12_1).f2), .int .i64 ((rd_T44 l0_1 x12_1).f3), .slice A133_4 ((rd_T44 l0_1 x12_1).f4).length c133_4, .int .i64 ((rd_T44 l0_1 x12_1).f5), .int .i64 ((rd_T44 l0_1 x12_1).f6), .int .i64 ((rd_T44 l0_1 x12_1).f7), .slice none 0 0, .slice none 0 0, .int .i64 0, .int .i64 0, .int .i64 0, .slice none 0 0, .slice none 0 0, .slice none 0 0]) ?_ 8 _ rfl; (with_reducible repeat (first | refine blk_drewN ?_ _ | refine blk_drew ?_ | refine blk_alloc ?_ _)); refine blk_put (cs := #[.int .i64 ((rd_T44 l0_1 x12_1).f0), .slice A133_1 ((rd_T44 l0_1 x12_1).f1).length c133_1, .string ((rd_T44 l0_1 x12_1).f2), .int .i64 ((rd_T44 l0_1 x12_1).f3), .slice A133_4 ((rd_T44 l0_1 x12_1).f4).length c133_4, .int .i64 ((rd_T44 l0_1 x12_1).f5), .int .i64 ((rd_T44 l0_1 x12_1).f6), .int .i64 0, .slice none 0 0, .slice none 0 0, .int .i64 0, .int .i64 0, .int .i64 0, .slice none 0 0, .slice none 0 0, .slice none 0 0]) ?_ 7 _ rfl; (with_reducible repeat (first | refine blk_drewN ?_ _ | refine blk_drew ?_ | refine blk_alloc ?_ _)); refine blk_put (cs := #[.int .i64 ((rd_T44 l0_1 x12_1).f0), .slice A133_1 ((rd_T44 l0_1 x12_1).f1).length c133_1, .string ((rd_T44 l0_1 x12_1).f2), .int .i64 ((rd_T44 l0_1 x12_1).f3), .slice A133_4 ((rd_T44 l0_1 x12_1).f4).length c133_4, .int .i64 ((rd_T44 l0_1 x12_1).f5), .int .i64 0, .int .i64 0, .slice none 0 0, .slice none 0 0, .int .i64 0, .int .i64 0, .int .i64 0, .slice none 0 0, .slice none 0 0, .slice none 0 0]) ?_ 6 _ rfl; (with_reducible repeat (first | refine blk_drewN ?_ _ | refine blk_drew ?_ | refine blk_alloc ?_ _)); refine blk_put (cs := #[.int .i64 ((rd_T44 l0_1 x12_1).f0), .slice A133_1 ((rd_T44 l0_1 x12_1).f1).length c133_1, .string ((rd_T44 l0_1 x12_1).f2), .int .i64 ((rd_T44 l0_1 x12_1).f3), .slice A133_4 ((rd_T44 l0_1 x12_1).f4).length c133_4, .int .i64 0, .int .i64 0, .int .i64 0, .slice none 0 0, .slice none 0 0, .int .i64 0, .int .i64 0, .int .i64 0, .slice none 0 0, .slice none 0 0, .slice none 0 0]) ?_ 5 _ rfl; (with_reducible repeat (first | refine blk_drewN ?_ _ | refine blk_drew ?_ | refine blk_alloc ?_ _)); refine blk_put (cs := #[.int .i64 ((rd_T44 l0_1 x12_1).f0), .slice A133_1 ((rd_T44 l0_1 x12_1).f1).length c133_1, .string ((rd_T44 l0_1 x12_1).f2), .int .i64 ((rd_T44 l0_1 x12_1).f3), .slice none 0 0, .int .i64 0, .int .i64 0, .int .i64 0, .slice none 0 0, .slice none 0 0, .int .i64 0, .int .i64 0, .int .i64 0, .slice none 0 0, .slice none 0 0, .slice none 0 0]) ?_ 4 _ rfl; (with_reducible repeat (first | refine blk_drewN ?_ _ | refine blk_drew ?_ | refine blk_alloc ?_ _)); refine blk_put (cs := #[.int .i64 ((rd_T44 l0_1 x12_1).f0), .slice A133_1 ((rd_T44 l0_1 x12_1).f1).length c133_1, .string ((rd_T44 l0_1 x12_1).f2), .int .i64 0, .slice none 0 0, .int .i64 0, .int .i64 0, .int .i64 0, .slice none 0 0, .slice none 0 0, .int .i64 0, .int .i64 0, .int .i64 0, .slice none 0 0, .slice none 0 0, .slice none 0 0]) ?_ 3 _ rfl; (with_reducible repeat (first | refine blk_drewN ?_ _ | refine blk_drew ?_ | refine blk_alloc ?_ _)); refine blk_put (cs := #[.int .i64 ((rd_T44 l0_1 x12_1).f0), .slice A133_1 ((rd_T44 l0_1 x12_1).f1).length c133_1, .string (⟨#[]⟩ : ByteArray), .int .i64 0, .slice none 0 0, .int .i64 0, .int .i64 0, .int .i64 0, .slice none 0 0, .slice none 0 0, .int .i64 0, .int .i64 0, .int .i64 0, .slice none 0 0, .slice none 0 0, .slice none 0 0]) ?_ 2 _ rfl; (with_reducible repeat (first | refine blk_drewN ?_ _ | refine blk_drew ?_ | refine blk_alloc ?_ _)); refine blk_put (cs := #[.int .i64 ((rd_T44 l0_1 x12_1).f0), .slice none 0 0, .string (⟨#[]⟩ : ByteArray), .int .i64 0, .slice none 0 0, .int .i64 0, .int .i64 0, .int .i64 0, .slice none 0 0, .slice none 0 0, .int .i64 0, .int .i64 0, .int .i64 0, .slice none 0 0, .slice none 0 0, .slice none 0 0]) ?_ 1 _ rfl; (with_reducible repeat (first | refine blk_drewN ?_ _ | refine blk_drew ?_ | refine blk_alloc ?_ _)); refine blk_put (cs := #[.int .i64 0, .slice none 0 0, .string (⟨#[]⟩ : ByteArray), .int .i64 0, .slice none 0 0, .int .i64 0, .int .i64 0, .int .i64 0, .slice none 0 0, .slice none 0 0, .int .i64 0, .int .i64 0, .int .i64 0, .slice none 0 0, .slice none 0 0, .slice none 0 0]) ?_ 0 _ rfl; (with_reducible repeat (first | refine blk_drewN ?_ _ | refine blk_drew ?_ | refine blk_alloc ?_ _)); exact BK134.out) hb); have n2_ := Aside0.mk (below_stepA hb); clear BK131; clear BK134; clear HB; have BK131 := n0_; have BK134 := n1_; have HB := n2_; clear n0_ n1_ n2_; (try clear hb); (try clear hb2); (try clear hk); (try clear hi)) | ((with_reducible refine gate_dst (N := 5) rfl ?_); (try (refine gate_guard (by rfl) ?_; dsimp only)); refine box_event ?hg (N := 5) ?hd (cs := #[.int .i64 0, fnV (none : Option Nat), fnV (none : Option Nat), .bool false]) (t := 65) ?hr ?_; (case hd => rfl); (case hg => rfl); (case hr => first | (go_simp; done) | (go_simp; rfl)); intro gb140 hg w13 hbox hb; have n0_ := Aside0.mk (blk_keepA BK131.out hb); have n1_ := Aside0.mk (blk_keepA BK134.out hb); have n2_ := Aside0.mk (below_stepA hb); have n3_ := Aside0.mk (hbox); have n4_ := Aside0.mk ((by rw [hg]; exact below_sizeA : w.heap.size ≤ gb140)); have n5_ := Aside0.mk ((by rw [hg]; exact below_sizeA : w.heap.size ≤ gb140)); have n6_ := Aside0.mk ((by rw [hg]; exact Nat.ne_of_lt (blk_ltKA BK131.out) : gb131 ≠ gb140)); have n7_ := Aside0.mk ((by rw [hg]; exact Nat.ne_of_gt (blk_ltKA BK131.out) : gb140 ≠ gb131)); have n8_ := Aside0.mk ((by rw [hg]; exact Nat.ne_of_lt (blk_ltKA BK134.out) : gb134 ≠ gb140)); have n9_ := Aside0.mk ((by rw [hg]; exact Nat.ne_of_gt (blk_ltKA BK134.out) : gb140 ≠ gb134)); clear BK131; clear BK134; clear HB; have BK131 := n0_; have BK134 := n1_; have HB := n2_; have BK140 := n3_; have GW140 := n4_; have GE140 := n5_; have NB131_140 := n6_; have NB140_131 := n7_; have NB134_140 := n8_; have NB140_134 := n9_; clear n0_ n1_ n2_ n3_ n4_ n5_ n6_ n7_ n8_ n9_; clear hb hbox hg; have hnb14 := NB140_131.out; have hnc14 := NB131_140.out; have hnb15 := NB140_134.out; have hnc15 := NB134_140.out; obtain ⟨hcz16_0, hcz16_1, hcz16_2, hcz16_3, hfz16_0, hfz16_1, hfz16_2, hfz16_3⟩ := blk4 BK140.out))
      (try simp only [Act.put, List.setIfInBounds_toArray, List.set_cons_zero, List.set_cons_succ])
      go_cut [32] (fun v32 wc => ∃ (kq : Nat) (x32_7 : Bool), v32 = .bool x32_7 ∧ Aside0 (bounds_Well.j1 kq x12_1 l0_1 (l0_1.length : Int) x12_1 x32_7 l0_0 l0_1 ((rd_T44 l0_1 x12_1).f0) ((rd_T44 l0_1 x12_1).f1) ((rd_T44 l0_1 x12_1).f2) ((rd_T44 l0_1 x12_1).f3) ((rd_T44 l0_1 x12_1).f4) ((rd_T44 l0_1 x12_1).f5) ((rd_T44 l0_1 x12_1).f6) ((rd_T44 l0_1 x12_1).f7) ((rd_T44 l0_1 x12_1).f8) ((rd_T44 l0_1 x12_1).f9) ((rd_T44 l0_1 x12_1).f10) ((rd_T44 l0_1 x12_1).f11) ((rd_T44 l0_1 x12_1).f12) ((rd_T44 l0_1 x12_1).f13) ((rd_T44 l0_1 x12_1).f14) ((rd_T44 l0_1 x12_1).f15) = some r) ∧ Aside0 (kq ≤ k1) ∧ Aside0 (wc.heap[gb131]? = some (.cells #[(.slice A0_0 l0_0.length c0_0), (.slice (some ad133) l0_1.length c0_1)] 25 (0, 0))) ∧ Aside0 (wc.heap[gb134]? = some (.cells #[.int .i64 ((rd_T44 l0_1 x12_1).f0), (.slice A133_1 ((rd_T44 l0_1 x12_1).f1).length c133_1), .string ((rd_T44 l0_1 x12_1).f2), .int .i64 ((rd_T44 l0_1 x12_1).f3), (.slice A133_4 ((rd_T44 l0_1 x12_1).f4).length c133_4), .int .i64 ((rd_T44 l0_1 x12_1).f5), .int .i64 ((rd_T44 l0_1 x12_1).f6), .int .i64 ((rd_T44 l0_1 x12_1).f7), (.slice A133_8 ((rd_T44 l0_1 x12_1).f8).length c133_8), (.slice A133_9 ((rd_T44 l0_1 x12_1).f9).length c133_9), .int .i64 ((rd_T44 l0_1 x12_1).f10), .int .i64 ((rd_T44 l0_1 x12_1).f11), .int .i64 ((rd_T44 l0_1 x12_1).f12), (.slice A133_13 ((rd_T44 l0_1 x12_1).f13).length c133_13), (.slice A133_14 ((rd_T44 l0_1 x12_1).f14).length c133_14), (.slice A133_15 ((rd_T44 l0_1 x12_1).f15).length c133_15)] 44 (0, 0))) ∧ Aside0 (wc.heap[gb140]? = some (.cells #[.int .i64 t135, fnV t136, fnV t137, .bool t138] 65 (0, 0))) ∧ Aside0 (Below w.heap.size w wc))
      case first =>
       have H := HC8.out
       clear HC8
       by_cases c17 : t139 = true
       ·
        subst c17
        have H1 : (bounds_Well.j1 k1 x12_1 l0_1 (l0_1.length : Int) x12_1 ((((rd_T44 l0_1 x12_1).f1).length : Int) != t135) l0_0 l0_1 ((rd_T44 l0_1 x12_1).f0) ((rd_T44 l0_1 x12_1).f1) ((rd_T44 l0_1 x12_1).f2) ((rd_T44 l0_1 x12_1).f3) ((rd_T44 l0_1 x12_1).f4) ((rd_T44 l0_1 x12_1).f5) ((rd_T44 l0_1 x12_1).f6) ((rd_T44 l0_1 x12_1).f7) ((rd_T44 l0_1 x12_1).f8) ((rd_T44 l0_1 x12_1).f9) ((rd_T44 l0_1 x12_1).f10) ((rd_T44 l0_1 x12_1).f11) ((rd_T44 l0_1 x12_1).f12) ((rd_T44 l0_1 x12_1).f13) ((rd_T44 l0_1 x12_1).f14) ((rd_T44 l0_1 x12_1).f15)) = some r := by rw [if_pos rfl] at H; exact H
        clear H
        have H := H1
        clear H1
        have H' := Aside0.mk H
        clear H
        have hnb18 := NB134_131.out
        have hnc18 := NB131_134.out
        have hnb19 := NB134_140.out
        have hnc19 := NB140_134.out
        obtain ⟨hcz20_0, hcz20_1, hcz20_2, hcz20_3, hcz20_4, hcz20_5, hcz20_6, hcz20_7, hcz20_8, hcz20_9, hcz20_10, hcz20_11, hcz20_12, hcz20_13, hcz20_14, hcz20_15, hfz20_0, hfz20_1, hfz20_2, hfz20_3, hfz20_4, hfz20_5, hfz20_6, hfz20_7, hfz20_8, hfz20_9, hfz20_10, hfz20_11, hfz20_12, hfz20_13, hfz20_14, hfz20_15⟩ := blk16 BK134.out
        have hnb21 := NB140_131.out
        have hnc21 := NB131_140.out
        obtain ⟨hcz22_0, hcz22_1, hcz22_2, hcz22_3, hfz22_0, hfz22_1, hfz22_2, hfz22_3⟩ := blk4 BK140.out
        go_wp2
        go_meet
        case rel => exact ⟨_, (((((rd_T44 l0_1 x12_1).f1).length : Int) != t135)), (by first | rfl | (simp; done) | (simp [*]; done)), H', ⟨by have := HK1.out; first | omega | exact Nat.le_refl _⟩, ⟨by (with_reducible repeat (first | refine blk_drewN ?_ _ | refine blk_drew ?_ | refine blk_alloc ?_ _)); refine blk_far ?_ NB131_140.out _; (with_reducible repeat (first | refine blk_drewN ?_ _ | refine blk_drew ?_ | refine blk_alloc ?_ _)); refine blk_far ?_ NB131_140.out _; (with_reducible repeat (first | refine blk_drewN ?_ _ | refine blk_drew ?_ | refine blk_alloc ?_ _)); refine blk_far ?_ NB131_140.out _; (with_reducible repeat (first | refine blk_drewN ?_ _ | refine blk_drew ?_ | refine blk_alloc ?_ _)); refine blk_far ?_ NB131_140.out _; (with_reducible repeat (first | refine blk_drewN ?_ _ | refine blk_drew ?_ | refine blk_alloc ?_ _)); exact BK131.out⟩, ⟨by (with_reducible repeat (first | refine blk_drewN ?_ _ | refine blk_drew ?_ | refine blk_alloc ?_ _)); refine blk_far ?_ NB134_140.out _; (with_reducible repeat (first | refine blk_drewN ?_ _ | refine blk_drew ?_ | refine blk_alloc ?_ _)); refine blk_far ?_ NB134_140.out _; (with_reducible repeat (first | refine blk_drewN ?_ _ | refine blk_drew ?_ | refine blk_alloc ?_ _)); refine blk_far ?_ NB134_140.out _; (with_reducible repeat (first | refine blk_drewN ?_ _ | refine blk_drew ?_ | refine blk_alloc ?_ _)); refine blk_far ?_ NB134_140.out _; (with_reducible repeat (first | refine blk_drewN ?_ _ | refine blk_drew ?_ | refine blk_alloc ?_ _)); exact BK134.out⟩, ⟨by (with_reducible repeat (first | refine blk_drewN ?_ _ | refine blk_drew ?_ | refine blk_alloc ?_ _)); refine blk_put (cs := #[.int .i64 t135, fnV t136, fnV t137, .bool false]) ?_ 3 _ rfl; (with_reducible repeat (first | refine blk_drewN ?_ _ | refine blk_drew ?_ | refine blk_alloc ?_ _)); refine blk_put (cs := #[.int .i64 t135, fnV t136, fnV (none : Option Nat), .bool false]) ?_ 2 _ rfl; (with_reducible repeat (first | refine blk_drewN ?_ _ | refine blk_drew ?_ | refine blk_alloc ?_ _)); refine blk_put (cs := #[.int .i64 t135, fnV (none : Option Nat), fnV (none : Option Nat), .bool false]) ?_ 1 _ rfl; (with_reducible repeat (first | refine blk_drewN ?_ _ | refine blk_drew ?_ | refine blk_alloc ?_ _)); refine blk_put (cs := #[.int .i64 0, fnV (none : Option Nat), fnV (none : Option Nat), .bool false]) ?_ 0 _ rfl; (with_reducible repeat (first | refine blk_drewN ?_ _ | refine blk_drew ?_ | refine blk_alloc ?_ _)); exact BK140.out⟩, ⟨by repeat (first | (with_reducible first | exact HB.out | apply below_alloc | apply pw_below_drewN | apply below_drew1 | refine below_set ?_ GE131.out | refine below_set ?_ GE134.out | refine below_set ?_ GE140.out) | exact HB.out)⟩⟩
       ·
        replace c17 := Bool.eq_false_iff.mpr c17
        subst c17
        have H1 : (bounds_Well.j1 k1 x12_1 l0_1 (l0_1.length : Int) x12_1 true l0_0 l0_1 ((rd_T44 l0_1 x12_1).f0) ((rd_T44 l0_1 x12_1).f1) ((rd_T44 l0_1 x12_1).f2) ((rd_T44 l0_1 x12_1).f3) ((rd_T44 l0_1 x12_1).f4) ((rd_T44 l0_1 x12_1).f5) ((rd_T44 l0_1 x12_1).f6) ((rd_T44 l0_1 x12_1).f7) ((rd_T44 l0_1 x12_1).f8) ((rd_T44 l0_1 x12_1).f9) ((rd_T44 l0_1 x12_1).f10) ((rd_T44 l0_1 x12_1).f11) ((rd_T44 l0_1 x12_1).f12) ((rd_T44 l0_1 x12_1).f13) ((rd_T44 l0_1 x12_1).f14) ((rd_T44 l0_1 x12_1).f15)) = some r := by rw [if_neg (show ¬ (false = true) by decide)] at H; exact H
        clear H
        have H := H1
        clear H1
        have H' := Aside0.mk H
        clear H
        go_wp2
        go_meet
        case rel => exact ⟨_, (true), (by first | rfl | (simp; done) | (simp [*]; done)), H', ⟨by have := HK1.out; first | omega | exact Nat.le_refl _⟩, ⟨by (with_reducible repeat (first | refine blk_drewN ?_ _ | refine blk_drew ?_ | refine blk_alloc ?_ _)); refine blk_far ?_ NB131_140.out _; (with_reducible repeat (first | refine blk_drewN ?_ _ | refine blk_drew ?_ | refine blk_alloc ?_ _)); refine blk_far ?_ NB131_140.out _; (with_reducible repeat (first | refine blk_drewN ?_ _ | refine blk_drew ?_ | refine blk_alloc ?_ _)); refine blk_far ?_ NB131_140.out _; (with_reducible repeat (first | refine blk_drewN ?_ _ | refine blk_drew ?_ | refine blk_alloc ?_ _)); refine blk_far ?_ NB131_140.out _; (with_reducible repeat (first | refine blk_drewN ?_ _ | refine blk_drew ?_ | refine blk_alloc ?_ _)); exact BK131.out⟩, ⟨by (with_reducible repeat (first | refine blk_drewN ?_ _ | refine blk_drew ?_ | refine blk_alloc ?_ _)); refine blk_far ?_ NB134_140.out _; (with_reducible repeat (first | refine blk_drewN ?_ _ | refine blk_drew ?_ | refine blk_alloc ?_ _)); refine blk_far ?_ NB134_140.out _; (with_reducible repeat (first | refine blk_drewN ?_ _ | refine blk_drew ?_ | refine blk_alloc ?_ _)); refine blk_far ?_ NB134_140.out _; (with_reducible repeat (first | refine blk_drewN ?_ _ | refine blk_drew ?_ | refine blk_alloc ?_ _)); refine blk_far ?_ NB134_140.out _; (with_reducible repeat (first | refine blk_drewN ?_ _ | refine blk_drew ?_ | refine blk_alloc ?_ _)); exact BK134.out⟩, ⟨by (with_reducible repeat (first | refine blk_drewN ?_ _ | refine blk_drew ?_ | refine blk_alloc ?_ _)); refine blk_put (cs := #[.int .i64 t135, fnV t136, fnV t137, .bool false]) ?_ 3 _ rfl; (with_reducible repeat (first | refine blk_drewN ?_ _ | refine blk_drew ?_ | refine blk_alloc ?_ _)); refine blk_put (cs := #[.int .i64 t135, fnV t136, fnV (none : Option Nat), .bool false]) ?_ 2 _ rfl; (with_reducible repeat (first | refine blk_drewN ?_ _ | refine blk_drew ?_ | refine blk_alloc ?_ _)); refine blk_put (cs := #[.int .i64 t135, fnV (none : Option Nat), fnV (none : Option Nat), .bool false]) ?_ 1 _ rfl; (with_reducible repeat (first | refine blk_drewN ?_ _ | refine blk_drew ?_ | refine blk_alloc ?_ _)); refine blk_put (cs := #[.int .i64 0, fnV (none : Option Nat), fnV (none : Option Nat), .bool false]) ?_ 0 _ rfl; (with_reducible repeat (first | refine blk_drewN ?_ _ | refine blk_drew ?_ | refine blk_alloc ?_ _)); exact BK140.out⟩, ⟨by repeat (first | (with_reducible first | exact HB.out | apply below_alloc | apply pw_below_drewN | apply below_drew1 | refine below_set ?_ GE131.out | refine below_set ?_ GE134.out | refine below_set ?_ GE140.out) | exact HB.out)⟩⟩
      case rest =>
       clear HC8
       try clear c1
       try clear p1
       try clear q1
       try clear hx1
       try clear c2
       try clear p2
       try clear c4
       try clear c4b0
       try clear c5
       try clear c5b0
       try clear c6
       try clear c6b0
       try clear c10
       try clear c13
       try clear p13
       try clear q13
       try clear hx13
       try clear c14
       try clear c15
       try clear c17
       try clear c18
       try clear c19
       try clear c21
       try clear hcz11_0
       try clear hcz11_1
       try clear hcz11_10
       try clear hcz11_11
       try clear hcz11_12
       try clear hcz11_13
       try clear hcz11_14
       try clear hcz11_15
       try clear hcz11_2
       try clear hcz11_3
       try clear hcz11_4
       try clear hcz11_5
       try clear hcz11_6
       try clear hcz11_7
       try clear hcz11_8
       try clear hcz11_9
       try clear hcz16_0
       try clear hcz16_1
       try clear hcz16_2
       try clear hcz16_3
       try clear hcz20_0
       try clear hcz20_1
       try clear hcz20_10
       try clear hcz20_11
       try clear hcz20_12
       try clear hcz20_13
       try clear hcz20_14
       try clear hcz20_15
       try clear hcz20_2
       try clear hcz20_3
       try clear hcz20_4
       try clear hcz20_5
       try clear hcz20_6
       try clear hcz20_7
       try clear hcz20_8
       try clear hcz20_9
       try clear hcz22_0
       try clear hcz22_1
       try clear hcz22_2
       try clear hcz22_3
       try clear hcz3_0
       try clear hcz3_1
       try clear hfz11_0
       try clear hfz11_1
       try clear hfz11_10
       try clear hfz11_11
       try clear hfz11_12
       try clear hfz11_13
       try clear hfz11_14
       try clear hfz11_15
       try clear hfz11_2
       try clear hfz11_3
       try clear hfz11_4
       try clear hfz11_5
       try clear hfz11_6
       try clear hfz11_7
       try clear hfz11_8
       try clear hfz11_9
       try clear hfz16_0
       try clear hfz16_1
       try clear hfz16_2
       try clear hfz16_3
       try clear hfz20_0
       try clear hfz20_1
       try clear hfz20_10
       try clear hfz20_11
       try clear hfz20_12
       try clear hfz20_13
       try clear hfz20_14
       try clear hfz20_15
       try clear hfz20_2
       try clear hfz20_3
       try clear hfz20_4
       try clear hfz20_5
       try clear hfz20_6
       try clear hfz20_7
       try clear hfz20_8
       try clear hfz20_9
       try clear hfz22_0
       try clear hfz22_1
       try clear hfz22_2
       try clear hfz22_3
       try clear hfz3_0
       try clear hfz3_1
       try clear hx133_0
       try clear hx133_1
       try clear hx133_10
       try clear hx133_11
       try clear hx133_12
       try clear hx133_13
       try clear hx133_14
       try clear hx133_15
       try clear hx133_2
       try clear hx133_3
       try clear hx133_4
       try clear hx133_5
       try clear hx133_6
       try clear hx133_7
       try clear hx133_8
       try clear hx133_9
       try clear p133
       try clear p2
       try clear q133
       obtain ⟨kq, x32_7, rfl, HA, HJ7, BK131, BK134, BK140, HB⟩ := hcut
       cases kq with
       | zero => exact absurd HA.out (by simp [bounds_Well.j1])
       | succ kj7 =>
        have H := HA.out
        clear HA
        simp only [bounds_Well.j1] at H
        by_cases c23 : x32_7 = true
        ·
         subst c23
         have H1 : (some false) = some r := by rw [if_pos rfl] at H; exact H
         clear H
         have H := H1
         clear H1
         obtain rfl := Option.some.inj H
         go_wp2
         go_ret
         exact ⟨by first | rfl | (simp [errW_none, errW_some] <;> rfl) | (simp [*, errW_none, errW_some] <;> rfl), by repeat (first | (with_reducible first | exact HB.out | apply below_alloc | apply pw_below_drewN | apply below_drew1 | refine below_set ?_ GE131.out | refine below_set ?_ GE134.out | refine below_set ?_ GE140.out) | exact HB.out)⟩
        ·
         replace c23 := Bool.eq_false_iff.mpr c23
         subst c23
         have H1 : (bounds_Well.l1 kj7 x12_1 l0_1 (l0_1.length : Int) x12_1 ((rd_T44 l0_1 x12_1).f1) (((rd_T44 l0_1 x12_1).f1).length : Int) 0 l0_0 l0_1) = some r := by rw [if_neg (show ¬ (false = true) by decide)] at H; exact H
         clear H
         have H := H1
         clear H1
         have H' := Aside0.mk H
         clear H
         have hnb24 := NB134_131.out
         have hnc24 := NB131_134.out
         have hnb25 := NB134_140.out
         have hnc25 := NB140_134.out
         obtain ⟨hcz26_0, hcz26_1, hcz26_2, hcz26_3, hcz26_4, hcz26_5, hcz26_6, hcz26_7, hcz26_8, hcz26_9, hcz26_10, hcz26_11, hcz26_12, hcz26_13, hcz26_14, hcz26_15, hfz26_0, hfz26_1, hfz26_2, hfz26_3, hfz26_4, hfz26_5, hfz26_6, hfz26_7, hfz26_8, hfz26_9, hfz26_10, hfz26_11, hfz26_12, hfz26_13, hfz26_14, hfz26_15⟩ := blk16 BK134.out
         go_wp2
         go_loopg [36] kj7 (fun kq v36 w' => ∃ (x36_3 : Int), v36 = .int .i64 x36_3 ∧ Aside0 (bounds_Well.l1 kq x12_1 l0_1 (l0_1.length : Int) x12_1 ((rd_T44 l0_1 x12_1).f1) (((rd_T44 l0_1 x12_1).f1).length : Int) x36_3 l0_0 l0_1 = some r) ∧ Aside0 (kq ≤ kj7) ∧ Aside0 (w'.heap[gb131]? = some (.cells #[(.slice A0_0 l0_0.length c0_0), (.slice (some ad133) l0_1.length c0_1)] 25 (0, 0))) ∧ Aside0 (w'.heap[gb134]? = some (.cells #[.int .i64 ((rd_T44 l0_1 x12_1).f0), (.slice A133_1 ((rd_T44 l0_1 x12_1).f1).length c133_1), .string ((rd_T44 l0_1 x12_1).f2), .int .i64 ((rd_T44 l0_1 x12_1).f3), (.slice A133_4 ((rd_T44 l0_1 x12_1).f4).length c133_4), .int .i64 ((rd_T44 l0_1 x12_1).f5), .int .i64 ((rd_T44 l0_1 x12_1).f6), .int .i64 ((rd_T44 l0_1 x12_1).f7), (.slice A133_8 ((rd_T44 l0_1 x12_1).f8).length c133_8), (.slice A133_9 ((rd_T44 l0_1 x12_1).f9).length c133_9), .int .i64 ((rd_T44 l0_1 x12_1).f10), .int .i64 ((rd_T44 l0_1 x12_1).f11), .int .i64 ((rd_T44 l0_1 x12_1).f12), (.slice A133_13 ((rd_T44 l0_1 x12_1).f13).length c133_13), (.slice A133_14 ((rd_T44 l0_1 x12_1).f14).length c133_14), (.slice A133_15 ((rd_T44 l0_1 x12_1).f15).length c133_15)] 44 (0, 0))) ∧ Aside0 (w'.heap[gb140]? = some (.cells #[.int .i64 t135, fnV t136, fnV t137, .bool t138] 65 (0, 0))) ∧ Aside0 (Below w.heap.size w w'))
         case atStart => exact ⟨(0), (by first | rfl | (simp; done) | (simp [*]; done)), H', ⟨Nat.le_refl _⟩, ⟨by (with_reducible repeat (first | refine blk_drewN ?_ _ | refine blk_drew ?_ | refine blk_alloc ?_ _)); exact BK131.out⟩, ⟨by (with_reducible repeat (first | refine blk_drewN ?_ _ | refine blk_drew ?_ | refine blk_alloc ?_ _)); exact BK134.out⟩, ⟨by (with_reducible repeat (first | refine blk_drewN ?_ _ | refine blk_drew ?_ | refine blk_alloc ?_ _)); exact BK140.out⟩, ⟨by repeat (first | (with_reducible first | exact HB.out | apply below_alloc | apply pw_below_drewN | apply below_drew1 | refine below_set ?_ GE131.out | refine below_set ?_ GE134.out | refine below_set ?_ GE140.out) | exact HB.out)⟩⟩
         case round =>
          clear H'
          try clear c1
          try clear p1
          try clear q1
          try clear hx1
          try clear c2
          try clear p2
          try clear c4
          try clear c4b0
          try clear c5
          try clear c5b0
          try clear c6
          try clear c6b0
          try clear c10
          try clear c13
          try clear p13
          try clear q13
          try clear hx13
          try clear c14
          try clear c15
          try clear c17
          try clear c18
          try clear c19
          try clear c21
          try clear c23
          try clear c24
          try clear c25
          try clear hcz11_0
          try clear hcz11_1
          try clear hcz11_10
          try clear hcz11_11
          try clear hcz11_12
          try clear hcz11_13
          try clear hcz11_14
          try clear hcz11_15
          try clear hcz11_2
          try clear hcz11_3
          try clear hcz11_4
          try clear hcz11_5
          try clear hcz11_6
          try clear hcz11_7
          try clear hcz11_8
          try clear hcz11_9
          try clear hcz16_0
          try clear hcz16_1
          try clear hcz16_2
          try clear hcz16_3
          try clear hcz20_0
          try clear hcz20_1
          try clear hcz20_10
          try clear hcz20_11
          try clear hcz20_12
          try clear hcz20_13
          try clear hcz20_14
          try clear hcz20_15
          try clear hcz20_2
          try clear hcz20_3
          try clear hcz20_4
          try clear hcz20_5
          try clear hcz20_6
          try clear hcz20_7
          try clear hcz20_8
          try clear hcz20_9
          try clear hcz22_0
          try clear hcz22_1
          try clear hcz22_2
          try clear hcz22_3
          try clear hcz26_0
          try clear hcz26_1
          try clear hcz26_10
          try clear hcz26_11
          try clear hcz26_12
          try clear hcz26_13
          try clear hcz26_14
          try clear hcz26_15
          try clear hcz26_2
          try clear hcz26_3
          try clear hcz26_4
          try clear hcz26_5
          try clear hcz26_6
          try clear hcz26_7
          try clear hcz26_8
          try clear hcz26_9
          try clear hcz3_0
          try clear hcz3_1
          try clear hfz11_0
          try clear hfz11_1
          try clear hfz11_10
          try clear hfz11_11
          try clear hfz11_12
          try clear hfz11_13
          try clear hfz11_14
          try clear hfz11_15
          try clear hfz11_2
          try clear hfz11_3
          try clear hfz11_4
          try clear hfz11_5
          try clear hfz11_6
          try clear hfz11_7
          try clear hfz11_8
          try clear hfz11_9
          try clear hfz16_0
          try clear hfz16_1
          try clear hfz16_2
          try clear hfz16_3
          try clear hfz20_0
          try clear hfz20_1
          try clear hfz20_10
          try clear hfz20_11
          try clear hfz20_12
          try clear hfz20_13
          try clear hfz20_14
          try clear hfz20_15
          try clear hfz20_2
          try clear hfz20_3
          try clear hfz20_4
          try clear hfz20_5
          try clear hfz20_6
          try clear hfz20_7
          try clear hfz20_8
          try clear hfz20_9
          try clear hfz22_0
          try clear hfz22_1
          try clear hfz22_2
          try clear hfz22_3
          try clear hfz26_0
          try clear hfz26_1
          try clear hfz26_10
          try clear hfz26_11
          try clear hfz26_12
          try clear hfz26_13
          try clear hfz26_14
          try clear hfz26_15
          try clear hfz26_2
          try clear hfz26_3
          try clear hfz26_4
          try clear hfz26_5
          try clear hfz26_6
          try clear hfz26_7
          try clear hfz26_8
          try clear hfz26_9
          try clear hfz3_0
          try clear hfz3_1
          try clear hx133_0
          try clear hx133_1
          try clear hx133_10
          try clear hx133_11
          try clear hx133_12
          try clear hx133_13
          try clear hx133_14
          try clear hx133_15
          try clear hx133_2
          try clear hx133_3
          try clear hx133_4
          try clear hx133_5
          try clear hx133_6
          try clear hx133_7
          try clear hx133_8
          try clear hx133_9
          try clear p1
          try clear p13
          try clear p133
          try clear p2
          try clear q1
          try clear q13
          try clear q133
          obtain ⟨x36_3, rfl, HA, HK3, BK131, BK134, BK140, HB⟩ := hrel
          cases gk with
          | zero => exact absurd HA.out (by simp [bounds_Well.l1])
          | succ k3 =>
           have H := HA.out
           clear HA
           simp only [bounds_Well.l1] at H
           by_cases c27 : x36_3 < (((rd_T44 l0_1 x12_1).f1).length : Int)
           ·
            rw [if_pos c27] at H
            have c27b0 : decide (x36_3 < (((rd_T44 l0_1 x12_1).f1).length : Int)) = true := decide_eq_true c27
            clear c27
            by_cases c28 : 0 ≤ x36_3
            ·
             rw [if_pos c28] at H
             have c28b0 : decide (0 ≤ x36_3) = true := decide_eq_true c28
             clear c28
             by_cases c29 : x36_3 < (((rd_T44 l0_1 x12_1).f1).length : Int)
             ·
              rw [if_pos c29] at H
              have c29b0 : decide (x36_3 < (((rd_T44 l0_1 x12_1).f1).length : Int)) = true := decide_eq_true c29
              clear c29
              replace H := Option.bind_eq_some_iff.mp H
              obtain ⟨t142, A300, H⟩ := H
              replace H : (if t142 = true then (bounds_Well.l1 k3 x12_1 l0_1 (l0_1.length : Int) x12_1 ((rd_T44 l0_1 x12_1).f1) (((rd_T44 l0_1 x12_1).f1).length : Int) (wrap64 (x36_3 + 1)) l0_0 l0_1) else (some false)) = some r := H
              have A30 := Aside0.mk A300
              clear A300
              by_cases c31 : t142 = true
              ·
               subst c31
               have H1 : (bounds_Well.l1 k3 x12_1 l0_1 (l0_1.length : Int) x12_1 ((rd_T44 l0_1 x12_1).f1) (((rd_T44 l0_1 x12_1).f1).length : Int) (wrap64 (x36_3 + 1)) l0_0 l0_1) = some r := by rw [if_pos rfl] at H; exact H
               clear H
               have H := H1
               clear H1
               have H' := Aside0.mk H
               clear H
               have p141 : 0 ≤ (x36_3 : Int) := of_decide_eq_true (by first | (with_reducible assumption) | assumption)
               have q141 : x36_3 < (((rd_T44 l0_1 x12_1).f1).length : Int) := of_decide_eq_true (by first | (with_reducible assumption) | assumption)
               obtain ⟨ad141, e141, hx141_0⟩ := Kd.at_int HR133_1.out x36_3 p141 q141
               cases e141
               replace hx141_0 := (HB.out.cell (World.block_lt_of_cell? w _ hx141_0)).trans hx141_0
               replace p141 := eq_true p141
               replace q141 := eq_true q141
               go_wp2_with (first | ((with_reducible refine gate_callee (f := 28) rfl ?_); refine goesL_ (some 43) rfl rfl Try.func28 (by kernel_rfl) rfl #[.int .i64 (rd ((rd_T44 l0_1 x12_1).f1) x36_3), .int .i64 0, .int .i64 (wrap64 (x12_1 - 1))] rfl (by (try simp only [List.map_toArray, List.map_cons, List.map_nil]); first | done | rfl | (simp only [List.length_drop, List.length_take]; rfl)) ?_; (with_reducible refine (bounds_within.calls (rd ((rd_T44 l0_1 x12_1).f1) x36_3) 0 (wrap64 (x12_1 - 1)) true _ A30.out).mono ?_); rintro e w' ⟨rfl, ⟨nd, rfl⟩⟩; refine ⟨_, rfl, ?_⟩))
               go_roundg k3
               case measure => have := HK1.out; have := HJ7.out; have := HK3.out; omega
               case rel => exact ⟨(wrap64 (x36_3 + 1)), (by first | rfl | (simp; done) | (simp [*]; done)), H', ⟨by have := HK1.out; have := HJ7.out; have := HK3.out; omega⟩, ⟨by (with_reducible repeat (first | refine blk_drewN ?_ _ | refine blk_drew ?_ | refine blk_alloc ?_ _)); exact BK131.out⟩, ⟨by (with_reducible repeat (first | refine blk_drewN ?_ _ | refine blk_drew ?_ | refine blk_alloc ?_ _)); exact BK134.out⟩, ⟨by (with_reducible repeat (first | refine blk_drewN ?_ _ | refine blk_drew ?_ | refine blk_alloc ?_ _)); exact BK140.out⟩, ⟨by repeat (first | (with_reducible first | exact HB.out | apply below_alloc | apply pw_below_drewN | apply below_drew1 | refine below_set ?_ GE131.out | refine below_set ?_ GE134.out | refine below_set ?_ GE140.out) | exact HB.out)⟩⟩
              ·
               replace c31 := Bool.eq_false_iff.mpr c31
               subst c31
               have H1 : (some false) = some r := by rw [if_neg (show ¬ (false = true) by decide)] at H; exact H
               clear H
               have H := H1
               clear H1
               obtain rfl := Option.some.inj H
               have p141 : 0 ≤ (x36_3 : Int) := of_decide_eq_true (by first | (with_reducible assumption) | assumption)
               have q141 : x36_3 < (((rd_T44 l0_1 x12_1).f1).length : Int) := of_decide_eq_true (by first | (with_reducible assumption) | assumption)
               obtain ⟨ad141, e141, hx141_0⟩ := Kd.at_int HR133_1.out x36_3 p141 q141
               cases e141
               replace hx141_0 := (HB.out.cell (World.block_lt_of_cell? w _ hx141_0)).trans hx141_0
               replace p141 := eq_true p141
               replace q141 := eq_true q141
               go_wp2_with (first | ((with_reducible refine gate_callee (f := 28) rfl ?_); refine goesL_ (some 43) rfl rfl Try.func28 (by kernel_rfl) rfl #[.int .i64 (rd ((rd_T44 l0_1 x12_1).f1) x36_3), .int .i64 0, .int .i64 (wrap64 (x12_1 - 1))] rfl (by (try simp only [List.map_toArray, List.map_cons, List.map_nil]); first | done | rfl | (simp only [List.length_drop, List.length_take]; rfl)) ?_; (with_reducible refine (bounds_within.calls (rd ((rd_T44 l0_1 x12_1).f1) x36_3) 0 (wrap64 (x12_1 - 1)) false _ A30.out).mono ?_); rintro e w' ⟨rfl, ⟨nd, rfl⟩⟩; refine ⟨_, rfl, ?_⟩))
               go_ret
               exact ⟨by first | rfl | (simp [errW_none, errW_some] <;> rfl) | (simp [*, errW_none, errW_some] <;> rfl), by repeat (first | (with_reducible first | exact HB.out | apply below_alloc | apply pw_below_drewN | apply below_drew1 | refine below_set ?_ GE131.out | refine below_set ?_ GE134.out | refine below_set ?_ GE140.out) | exact HB.out)⟩
             ·
              rw [if_neg c29] at H
              exact absurd H (by simp)
            ·
             rw [if_neg c28] at H
             exact absurd H (by simp)
           ·
            rw [if_neg c27] at H
            have c27b0 : decide (x36_3 < (((rd_T44 l0_1 x12_1).f1).length : Int)) = false := decide_eq_false c27
            clear c27
            have H' := Aside0.mk H
            clear H
            go_wp2
            go_roundg k3
            case measure => have := HK1.out; have := HJ7.out; have := HK3.out; omega
            case rel => exact ⟨(wrap64 (x12_1 + 1)), (by first | rfl | (simp; done) | (simp [*]; done)), H', ⟨by have := HK1.out; have := HJ7.out; have := HK3.out; omega⟩, ⟨by (with_reducible repeat (first | refine blk_drewN ?_ _ | refine blk_drew ?_ | refine blk_alloc ?_ _)); exact BK131.out⟩, ⟨by repeat (first | (with_reducible first | exact HB.out | apply below_alloc | apply pw_below_drewN | apply below_drew1 | refine below_set ?_ GE131.out | refine below_set ?_ GE134.out | refine below_set ?_ GE140.out) | exact HB.out)⟩⟩
     ·
      rw [if_neg c6] at H
      exact absurd H (by simp)
    ·
     rw [if_neg c5] at H
     exact absurd H (by simp)
   ·
    rw [if_neg c4] at H
    have c4b0 : decide (x12_1 < (l0_1.length : Int)) = false := decide_eq_false c4
    clear c4
    replace H := Option.bind_eq_some_iff.mp H
    obtain ⟨t132, A320, H⟩ := H
    replace H : (some t132) = some r := H
    have A32 := Aside0.mk A320
    clear A320
    obtain rfl := Option.some.inj H
    obtain ⟨hcz33_0, hcz33_1, hfz33_0, hfz33_1⟩ := blk2 BK131.out
    go_wp2_with (first | ((with_reducible refine gate_callee (f := 28) rfl ?_); refine goesL_ (some 50) rfl rfl Try.func28 (by kernel_rfl) rfl #[.int .i64 (l0_1.length : Int), .int .i64 1, .int .i64 40] rfl (by (try simp only [List.map_toArray, List.map_cons, List.map_nil]); first | done | rfl | (simp only [List.length_drop, List.length_take]; rfl)) ?_; (with_reducible refine (bounds_within.calls (l0_1.length : Int) 1 40 t132 _ A32.out).mono ?_); rintro e w' ⟨rfl, ⟨nd, rfl⟩⟩; refine ⟨_, rfl, ?_⟩))
    go_ret
    exact ⟨by first | rfl | (simp [errW_none, errW_some] <;> rfl) | (simp [*, errW_none, errW_some] <;> rfl), by repeat (first | (with_reducible first | exact HB.out | apply below_alloc | apply pw_below_drewN | apply below_drew1 | refine below_set ?_ GE131.out) | exact HB.out)⟩

end Go.Proofs.Yteoljddobfnfiaa.PB
end
section
namespace Go.Proofs.Yteoljddobfnfiaa.Pure
open Go.RowKit Go.Proofs.YteoljddobfnfiaaW.PrintWords Go.Proofs.YteoljddobfnfiaaW.PrintLast Go.Proofs.YteoljddobfnfiaaW.PrintMore Go.Proofs.Yteoljddobfnfiaa.PB
set_option linter.unusedVariables false
set_option linter.unusedSimpArgs false

def ins (op : Int) : Int := if op = 0 then 0 else if op = 3 ∨ op = 6 ∨ op = 7 then 2 else 1
def okIn (i : Int) (l : List Int) : Bool := l.all fun x => decide (0 ≤ x ∧ x < i)
def okNode (i : Int) (n : S44) : Bool := decide (0 ≤ n.f0 ∧ n.f0 ≤ 8) && (decide ((n.f1.length : Int) = ins n.f0) && okIn i n.f1)
def okFrom : Int → List S44 → Bool
  | _, [] => true
  | i, n :: r => okNode i n && okFrom (i + 1) r
def well (l : List S44) : Bool := okFrom 0 l && decide (1 ≤ (l.length : Int) ∧ (l.length : Int) ≤ 40)

theorem rd_at {l : List Int} {i : Nat} (h : i < l.length) : rd l (i : Int) = l[i] := by
  unfold rd
  simp [List.getD_eq_getElem?_getD, List.getElem?_eq_getElem h]
theorem rd44_at {l : List S44} {i : Nat} (h : i < l.length) : rd_T44 l (i : Int) = l[i] := by
  unfold rd_T44
  simp [List.getD_eq_getElem?_getD, List.getElem?_eq_getElem h]
theorem okIn_cons (i x : Int) (l : List Int) : okIn i (x :: l) = (decide (0 ≤ x ∧ x < i) && okIn i l) := by simp [okIn]
theorem of_eq (op : Int) : bounds_of.f op = some (if 0 ≤ op ∧ op ≤ 8 then ins op else 0, (bounds_of.f op).get!.2.1, (bounds_of.f op).get!.2.2.1, decide (4 ≤ op ∧ op ≤ 8), decide (0 ≤ op ∧ op ≤ 8)) := by
  by_cases h : 0 ≤ op ∧ op ≤ 8
  · have hc : op = 0 ∨ op = 1 ∨ op = 2 ∨ op = 3 ∨ op = 4 ∨ op = 5 ∨ op = 6 ∨ op = 7 ∨ op = 8 := by omega
    rcases hc with rfl | rfl | rfl | rfl | rfl | rfl | rfl | rfl | rfl <;> rfl
  · have e : bounds_of.f op = some (0, none, none, false, false) := by
      unfold bounds_of.f
      rw [if_neg (by omega), if_neg (by omega), if_neg (by omega), if_neg (by omega), if_neg (by omega), if_neg (by omega), if_neg (by omega), if_neg (by omega), if_neg (by omega)]
    rw [e, if_neg h, decide_eq_false h, decide_eq_false (by omega)]
    rfl
theorem cast_succ (j : Nat) : (j : Int) + 1 = ((j + 1 : Nat) : Int) := by omega

theorem Well_in (i : Int) (x10 l : List S44) (x11 x12 : Int) (F : List S95) (In : List Int) (hi : 0 ≤ i ∧ i ≤ 9223372036854775807) (hn : In.length ≤ 9223372036854775807) (rest : Bool)
    (hr : Ev (fun k => bounds_Well.l0 k x10 x11 (wrap64 (x12 + 1)) F l) rest) : ∀ d j : Nat, j + d = In.length → Ev (fun k => bounds_Well.l1 k i x10 x11 x12 In (In.length : Int) (j : Int) F l) (okIn i (In.drop j) && rest)
  | 0, j, h => by
    refine Ev.step (f := fun k => bounds_Well.l0 k x10 x11 (wrap64 (x12 + 1)) F l) (fun k => ?_) (by rw [List.drop_of_length_le (by omega)]; simpa [okIn] using hr)
    simp only [bounds_Well.l1]
    rw [if_neg (by omega)]
  | d + 1, j, h => by
    have hj : j < In.length := by omega
    have e : In.drop j = In[j] :: In.drop (j + 1) := List.drop_eq_getElem_cons hj
    have ih := Well_in i x10 l x11 x12 F In hi hn rest hr d (j + 1) (by omega)
    by_cases hx : 0 ≤ In[j] ∧ In[j] < i
    · refine Ev.step (f := fun k => bounds_Well.l1 k i x10 x11 x12 In (In.length : Int) ((j + 1 : Nat) : Int) F l) (fun k => ?_) (by rw [e, okIn_cons, decide_eq_true hx]; simpa using ih)
      simp only [bounds_Well.l1]
      rw [if_pos (by omega), if_pos (by omega), if_pos (by omega), rd_at hj, within_eq, Option.bind_some, wrap_id (n := i - 1) (by omega) (by omega), if_pos (decide_eq_true (by omega)), wrap_id (n := (j : Int) + 1) (by omega) (by omega), cast_succ]
    · refine Ev.step (f := fun _ => some (okIn i (In.drop j) && rest)) (fun k => ?_) (Ev.now _)
      rw [e, okIn_cons, decide_eq_false hx]
      simp only [bounds_Well.l1]
      rw [if_pos (by omega), if_pos (by omega), if_pos (by omega), rd_at hj, within_eq, Option.bind_some, wrap_id (n := i - 1) (by omega) (by omega), if_neg (by simp; omega)]
      rfl
theorem Well_from (l : List S44) (F : List S95) (hl : l.length ≤ 9223372036854775807) (hin : ∀ n ∈ l, n.f1.length ≤ 9223372036854775807) : ∀ d i : Nat, i + d = l.length →
    Ev (fun k => bounds_Well.l0 k l (l.length : Int) (i : Int) F l) (okFrom i (l.drop i) && decide (1 ≤ (l.length : Int) ∧ (l.length : Int) ≤ 40))
  | 0, i, h => by
    refine Ev.step (f := fun _ => some (okFrom i (l.drop i) && decide (1 ≤ (l.length : Int) ∧ (l.length : Int) ≤ 40))) (fun k => ?_) (Ev.now _)
    simp only [bounds_Well.l0]
    rw [if_neg (by omega), within_eq, Option.bind_some, List.drop_of_length_le (by omega)]
    simp [okFrom]
  | d + 1, i, h => by
    have hi : i < l.length := by omega
    have e : l.drop i = l[i] :: l.drop (i + 1) := List.drop_eq_getElem_cons hi
    have ih := Well_from l F hl hin d (i + 1) (by omega)
    have hlen := hin l[i] (List.getElem_mem hi)
    rw [← cast_succ] at ih
    have ihw : Ev (fun k => bounds_Well.l0 k l (l.length : Int) (wrap64 ((i : Int) + 1)) F l) (okFrom ((i : Int) + 1) (l.drop (i + 1)) && decide (1 ≤ (l.length : Int) ∧ (l.length : Int) ≤ 40)) := by
      rw [wrap_id (n := (i : Int) + 1) (by omega) (by omega)]
      exact ih
    by_cases ho : 0 ≤ (l[i]).f0 ∧ (l[i]).f0 ≤ 8
    · by_cases hc : ((l[i]).f1.length : Int) = ins (l[i]).f0
      · have hw := Well_in (i : Int) l l (l.length : Int) (i : Int) F (l[i]).f1 (by omega) hlen _ ihw (l[i]).f1.length 0 (by omega)
        rw [List.drop_zero] at hw
        refine Ev.step (f := fun k => bounds_Well.j1 k (i : Int) l (l.length : Int) (i : Int) false F l (l[i]).f0 (l[i]).f1 (l[i]).f2 (l[i]).f3 (l[i]).f4 (l[i]).f5 (l[i]).f6 (l[i]).f7 (l[i]).f8 (l[i]).f9 (l[i]).f10 (l[i]).f11 (l[i]).f12 (l[i]).f13 (l[i]).f14 (l[i]).f15) (fun k => ?_)
          (Ev.step (f := fun k => bounds_Well.l1 k (i : Int) l (l.length : Int) (i : Int) (l[i]).f1 ((l[i]).f1.length : Int) 0 F l) (fun k => ?_) ?_)
        · simp only [bounds_Well.l0]
          rw [if_pos (by omega), if_pos (by omega), if_pos (by omega), rd44_at hi, of_eq, Option.bind_some]
          simp only [decide_eq_true ho, if_true, if_pos ho]
          rw [show (((l[i]).f1.length : Int) != ins (l[i]).f0) = false by simp [hc]]
        · simp only [bounds_Well.j1]
          rw [if_neg (by decide)]
        · rw [e]
          simp only [okFrom, okNode, decide_eq_true ho, decide_eq_true hc, Bool.true_and, Bool.and_assoc]
          exact hw
      · refine Ev.step (f := fun k => bounds_Well.j1 k (i : Int) l (l.length : Int) (i : Int) true F l (l[i]).f0 (l[i]).f1 (l[i]).f2 (l[i]).f3 (l[i]).f4 (l[i]).f5 (l[i]).f6 (l[i]).f7 (l[i]).f8 (l[i]).f9 (l[i]).f10 (l[i]).f11 (l[i]).f12 (l[i]).f13 (l[i]).f14 (l[i]).f15) (fun k => ?_)
          (Ev.step (f := fun k => some false) (fun k => ?_) ?_)
        · simp only [bounds_Well.l0]
          rw [if_pos (by omega), if_pos (by omega), if_pos (by omega), rd44_at hi, of_eq, Option.bind_some]
          simp only [decide_eq_true ho, if_true, if_pos ho]
          rw [show (((l[i]).f1.length : Int) != ins (l[i]).f0) = true by simp [hc]]
        · simp only [bounds_Well.j1, if_true]
        · rw [e]
          simp only [okFrom, okNode, decide_eq_false hc, Bool.false_and, Bool.and_false]
          exact Ev.now _
    · refine Ev.step (f := fun k => bounds_Well.j1 k (i : Int) l (l.length : Int) (i : Int) true F l (l[i]).f0 (l[i]).f1 (l[i]).f2 (l[i]).f3 (l[i]).f4 (l[i]).f5 (l[i]).f6 (l[i]).f7 (l[i]).f8 (l[i]).f9 (l[i]).f10 (l[i]).f11 (l[i]).f12 (l[i]).f13 (l[i]).f14 (l[i]).f15) (fun k => ?_)
        (Ev.step (f := fun k => some false) (fun k => ?_) ?_)
      · simp only [bounds_Well.l0]
        rw [if_pos (by omega), if_pos (by omega), if_pos (by omega), rd44_at hi, of_eq, Option.bind_some]
        simp only [decide_eq_false ho]
        rw [if_neg (by decide)]
      · simp only [bounds_Well.j1, if_true]
      · rw [e]
        simp only [okFrom, okNode, decide_eq_false ho, Bool.false_and]
        exact Ev.now _
theorem Well_ev (l : List S44) (F : List S95) (hl : l.length ≤ 9223372036854775807) (hin : ∀ n ∈ l, n.f1.length ≤ 9223372036854775807) : Ev (fun k => bounds_Well.f k F l) (well l) := by
  have := Well_from l F hl hin l.length 0 (by omega)
  rw [List.drop_zero] at this
  exact this
end Go.Proofs.Yteoljddobfnfiaa.Pure
end
section
namespace Go.Proofs.Yteoljddobfnfiaa.PB
open Go.RowKit Go.Proofs.YteoljddobfnfiaaW.PrintWords Go.Proofs.YteoljddobfnfiaaW.PrintLast Go.Proofs.YteoljddobfnfiaaW.PrintMore
attribute [local go_sem] max2_int min2_int max_two min_two max_three min_three max_four min_four
attribute [local go_sem ↓ high] Go.Proofs.Yteoljddobfnfiaa.My.ld44_eq Go.Proofs.Yteoljddobfnfiaa.My.st44_eq Go.Proofs.Yteoljddobfnfiaa.My.ld27_eq Go.Proofs.Yteoljddobfnfiaa.My.st27_eq Go.Proofs.Yteoljddobfnfiaa.My.ld37_eq Go.Proofs.Yteoljddobfnfiaa.My.st37_eq Go.Proofs.Yteoljddobfnfiaa.My.ld65_eq Go.Proofs.Yteoljddobfnfiaa.My.st65_eq
attribute [local go_sem high] Go.Proofs.Yteoljddobfnfiaa.My.ld44_run Go.Proofs.Yteoljddobfnfiaa.My.st44_run Go.Proofs.Yteoljddobfnfiaa.My.ld27_run Go.Proofs.Yteoljddobfnfiaa.My.st27_run Go.Proofs.Yteoljddobfnfiaa.My.ld37_run Go.Proofs.Yteoljddobfnfiaa.My.st37_run Go.Proofs.Yteoljddobfnfiaa.My.ld65_run Go.Proofs.Yteoljddobfnfiaa.My.st65_run
open Go.Proofs.Yteoljddobfnfiaa.My
attribute [local go_sem] cell_map run_store_fnV one_int one_bool one_string one_slice one_fnV
set_option linter.unusedVariables false
set_option linter.unusedSimpArgs false

def bounds_plus.f (a0 : Int) (a1 : Int) : Option (Int) := some (mn (wrap64 (a0 + a1)) 1099511627776)
set_option maxHeartbeats 8000000 in
set_option maxRecDepth 100000 in
theorem bounds_plus.calls (a0 : Int) (a1 : Int) (r : Int) (w : World) (h : bounds_plus.f a0 a1 = some r) :
    Calls Try.prog 32 #[.int .i64 a0, .int .i64 a1] w fun e w' => e = .returned (.int .i64 r) ∧ Below w.heap.size w w' := by
  have HB := Aside0.mk (Below.refl w.heap.size w)
  have H : (some (mn (wrap64 (a0 + a1)) 1099511627776)) = some r := h
  clear h
  obtain ⟨ji3, hji3⟩ : ∃ j_ : Int, (mn (wrap64 (a0 + a1)) 1099511627776) = j_ := ⟨_, rfl⟩
  replace H : (some ji3) = some r := by first | (rw [hji3] at H; exact H) | (simp only [hji3] at H ⊢; exact H)
  (try (have hji3h : ji3 ≤ 1099511627776 := by (rw [← hji3]; unfold mn; (repeat' split) <;> omega)))
  (try (have hji3g : ji3 ≤ 64 := by omega))
  have hji3_ : (if 1099511627776 < (wrap64 (a0 + a1)) then 1099511627776 else (wrap64 (a0 + a1))) = ji3 := hji3
  obtain rfl := Option.some.inj H
  go_enter Try.func32, Try.ntmps32
  go_wp2
  go_ret
  exact ⟨by first | rfl | (simp [errW_none, errW_some] <;> rfl) | (simp only [← hji3]; first | rfl | (simp [errW_none, errW_some] <;> rfl)) | (simp [*, errW_none, errW_some] <;> rfl), by repeat (first | (with_reducible first | exact HB.out | apply below_alloc | apply pw_below_drewN | apply below_drew1) | exact HB.out)⟩

def bounds_times.f (a0 : Int) (a1 : Int) : Option (Int) := if a0 = 0 then (some (wrap64 (a0 * a1))) else (if a1 > (wrap64 (Int.tdiv (1099511627776 : Int) a0)) then (some 1099511627776) else (some (wrap64 (a0 * a1))))
set_option maxHeartbeats 8000000 in
set_option maxRecDepth 100000 in
theorem bounds_times.calls (a0 : Int) (a1 : Int) (r : Int) (w : World) (h : bounds_times.f a0 a1 = some r) :
    Calls Try.prog 35 #[.int .i64 a0, .int .i64 a1] w fun e w' => e = .returned (.int .i64 r) ∧ Drawn0 w w' := by
  have H : (if a0 = 0 then (some (wrap64 (a0 * a1))) else (if a1 > (wrap64 (Int.tdiv (1099511627776 : Int) a0)) then (some 1099511627776) else (some (wrap64 (a0 * a1))))) = some r := h
  clear h
  by_cases c3 : a0 = 0
  · rw [if_pos c3] at H
    have c3b0 : (a0 == 0) = true := beq_iff_eq.mpr c3
    have c3b1 : (a0 != 0) = false := bne_eq_false_iff_eq.mpr c3
    clear c3
    obtain rfl := Option.some.inj H
    go_enter Try.func35, Try.ntmps35
    go_wp2
    go_ret
    exact ⟨by first | rfl | (simp; done) | (simp [*]; done), by repeat (first | exact Drawn0.refl _ | apply Drawn0.step)⟩
  · rw [if_neg c3] at H
    have c3b0 : (a0 == 0) = false := beq_eq_false_iff_ne.mpr c3
    have c3b1 : (a0 != 0) = true := bne_iff_ne.mpr c3
    by_cases c4 : a1 > (wrap64 (Int.tdiv (1099511627776 : Int) a0))
    · rw [if_pos c4] at H
      have c4b0 : decide ((wrap64 (Int.tdiv (1099511627776 : Int) a0)) < a1) = true := decide_eq_true c4
      clear c4
      obtain rfl := Option.some.inj H
      go_enter Try.func35, Try.ntmps35
      go_wp2
      go_ret
      exact ⟨by first | rfl | (simp; done) | (simp [*]; done), by repeat (first | exact Drawn0.refl _ | apply Drawn0.step)⟩
    · rw [if_neg c4] at H
      have c4b0 : decide ((wrap64 (Int.tdiv (1099511627776 : Int) a0)) < a1) = false := decide_eq_false c4
      clear c4
      obtain rfl := Option.some.inj H
      go_enter Try.func35, Try.ntmps35
      go_wp2
      go_ret
      exact ⟨by first | rfl | (simp; done) | (simp [*]; done), by repeat (first | exact Drawn0.refl _ | apply Drawn0.step)⟩

end Go.Proofs.Yteoljddobfnfiaa.PB
end
section
namespace Go.Proofs.Yteoljddobfnfiaa.PB
open Go.RowKit Go.Proofs.YteoljddobfnfiaaW.PrintWords Go.Proofs.YteoljddobfnfiaaW.PrintLast Go.Proofs.YteoljddobfnfiaaW.PrintMore
attribute [local go_sem] max2_int min2_int max_two min_two max_three min_three max_four min_four
attribute [local go_sem ↓ high] Go.Proofs.Yteoljddobfnfiaa.My.ld44_eq Go.Proofs.Yteoljddobfnfiaa.My.st44_eq Go.Proofs.Yteoljddobfnfiaa.My.ld27_eq Go.Proofs.Yteoljddobfnfiaa.My.st27_eq Go.Proofs.Yteoljddobfnfiaa.My.ld37_eq Go.Proofs.Yteoljddobfnfiaa.My.st37_eq Go.Proofs.Yteoljddobfnfiaa.My.ld65_eq Go.Proofs.Yteoljddobfnfiaa.My.st65_eq
attribute [local go_sem high] Go.Proofs.Yteoljddobfnfiaa.My.ld44_run Go.Proofs.Yteoljddobfnfiaa.My.st44_run Go.Proofs.Yteoljddobfnfiaa.My.ld27_run Go.Proofs.Yteoljddobfnfiaa.My.st27_run Go.Proofs.Yteoljddobfnfiaa.My.ld37_run Go.Proofs.Yteoljddobfnfiaa.My.st37_run Go.Proofs.Yteoljddobfnfiaa.My.ld65_run Go.Proofs.Yteoljddobfnfiaa.My.st65_run
open Go.Proofs.Yteoljddobfnfiaa.My
attribute [local go_sem] cell_map run_store_fnV one_int one_bool one_string one_slice one_fnV
set_option linter.unusedVariables false
set_option linter.unusedSimpArgs false

mutual
def bounds_bound.l0 : Nat → List (S37) → Int → Int → List Int → List Int → Int → Int → Int → List Int → ByteArray → Int → List (S93) → Int → Int → Int → List Int → List Int → Int → Int → Int → List (S97) → List (S99) → List (S50) → Int → Int → Int → Int → Int → Int → Int → Int → Int → Int → Int → Option Nat → Option Nat → Bool → Option (Int × Int × Int × Int)
  | 0, _, _, _, _, _, _, _, _, _, _, _, _, _, _, _, _, _, _, _, _, _, _, _, _, _, _, _, _, _, _, _, _, _, _, _, _, _ => none
  | k + 1, x1, x7, x8, x10, x27, x28, x29, x144000, x144001, x144002, x144003, x144004, x144005, x144006, x144007, x144008, x144009, x144010, x144011, x144012, x144013, x144014, x144015, x145000, x145001, x145002, x145003, x145004, x145005, x149000, x149001, x149002, x149003, x155000, x155001, x155002, x155003 => if x29 < x28 then (if 0 ≤ x29 then (if x29 < (x27.length : Int) then (if 0 ≤ (rd x27 x29) then (if (rd x27 x29) < (x1.length : Int) then (if x10.length < 17592186044416 then ((some (x10 ++ [(rd_T37 x1 (rd x27 x29)).f2] : List Int)).bind fun y159 => (if x155003 = true then ((bounds_times.f ((rd_T37 x1 (rd x27 x29)).f2) (wrap64 ((wrap64 (x145005 + ((rd_T37 x1 (rd x27 x29)).f1))) + x7))).bind fun t164 => ((bounds_plus.f x149003 t164).bind fun t165 => (bounds_bound.l0 k x1 x7 x8 y159 x27 x28 (wrap64 (x29 + 1)) x144000 x144001 x144002 x144003 x144004 x144005 x144006 x144007 x144008 x144009 x144010 x144011 x144012 x144013 x144014 x144015 x145000 x145001 x145002 x145003 x145004 x145005 (mx x149000 ((rd_T37 x1 (rd x27 x29)).f0)) (mx x149001 ((rd_T37 x1 (rd x27 x29)).f1)) x149002 t165 x155000 x155001 x155002 x155003))) else (bounds_bound.l0 k x1 x7 x8 y159 x27 x28 (wrap64 (x29 + 1)) x144000 x144001 x144002 x144003 x144004 x144005 x144006 x144007 x144008 x144009 x144010 x144011 x144012 x144013 x144014 x144015 x145000 x145001 x145002 x145003 x145004 x145005 (mx x149000 ((rd_T37 x1 (rd x27 x29)).f0)) (mx x149001 ((rd_T37 x1 (rd x27 x29)).f1)) x149002 x149003 x155000 x155001 x155002 x155003))) else (none)) else (none)) else (none)) else (none)) else (none)) else (if x144000 = 0 then (some (wrap64 (x149000 + x7), wrap64 (x149001 + x8), wrap64 (x145000 * x145004), x149003)) else (if x144000 = 3 then (if 0 < (x10.length : Int) then (if 1 < (x10.length : Int) then ((bounds_plus.f (rd x10 0) (rd x10 1)).bind fun t168 => (some (wrap64 (x149000 + x7), wrap64 (x149001 + x8), t168, x149003))) else (none)) else (none)) else (if x144000 = 4 then (bounds_bound.j1 k x10 x144000 (x144000 == 4) x144000 x144001 x144002 x144003 x144004 x144005 x144006 x144007 x144008 x144009 x144010 x144011 x144012 x144013 x144014 x144015 (wrap64 (x149000 + x7)) (wrap64 (x149001 + x8)) x149002 x149003) else (bounds_bound.j1 k x10 x144000 (x144000 == 5) x144000 x144001 x144002 x144003 x144004 x144005 x144006 x144007 x144008 x144009 x144010 x144011 x144012 x144013 x144014 x144015 (wrap64 (x149000 + x7)) (wrap64 (x149001 + x8)) x149002 x149003))))
def bounds_bound.j1 : Nat → List Int → Int → Bool → Int → List Int → ByteArray → Int → List (S93) → Int → Int → Int → List Int → List Int → Int → Int → Int → List (S97) → List (S99) → List (S50) → Int → Int → Int → Int → Option (Int × Int × Int × Int)
  | 0, _, _, _, _, _, _, _, _, _, _, _, _, _, _, _, _, _, _, _, _, _, _, _ => none
  | k + 1, x10, x93, x116, x144000, x144001, x144002, x144003, x144004, x144005, x144006, x144007, x144008, x144009, x144010, x144011, x144012, x144013, x144014, x144015, x149000, x149001, x149002, x149003 => if x116 = true then (if 0 < (x10.length : Int) then ((bounds_times.f (rd x10 0) x144006).bind fun t170 => (some (x149000, x149001, t170, x149003))) else (none)) else (if x93 = 6 then (if 0 < (x10.length : Int) then (if 1 < (x10.length : Int) then ((bounds_times.f (rd x10 0) (rd x10 1)).bind fun t173 => ((bounds_times.f t173 (wrap64 ((wrap64 (x144010 + x144011)) + 2))).bind fun t174 => (some (x149000, x149001, t174, x149003)))) else (none)) else (none)) else (if 0 < (x10.length : Int) then (some (x149000, x149001, rd x10 0, x149003)) else (none)))
end
def bounds_bound.f (k : Nat) (a0_0 : Int) (l0_1 : List Int) (a0_2 : ByteArray) (a0_3 : Int) (l0_4 : List (S93)) (a0_5 : Int) (a0_6 : Int) (a0_7 : Int) (l0_8 : List Int) (l0_9 : List Int) (a0_10 : Int) (a0_11 : Int) (a0_12 : Int) (l0_13 : List (S97)) (l0_14 : List (S99)) (l0_15 : List (S50)) (l1 : List (S37)) (a2_0 : Int) (a2_1 : Int) (a2_2 : Int) (a2_3 : Int) (a2_4 : Int) (a2_5 : Int) : Option (Int × Int × Int × Int) := (bounds_Own.f a0_0 l0_1 a0_2 a0_3 l0_4 a0_5 a0_6 a0_7 l0_8 l0_9 a0_10 a0_11 a0_12 l0_13 l0_14 l0_15).bind fun bt146 => ((bounds_of.f a0_0).bind fun bt149 => (bounds_bound.l0 k l1 bt146.1 bt146.2 ([] : List Int) l0_1 (l0_1.length : Int) 0 a0_0 l0_1 a0_2 a0_3 l0_4 a0_5 a0_6 a0_7 l0_8 l0_9 a0_10 a0_11 a0_12 l0_13 l0_14 l0_15 a2_0 a2_1 a2_2 a2_3 a2_4 a2_5 0 0 0 0 bt149.1 bt149.2.1 bt149.2.2.1 bt149.2.2.2.1))
theorem bounds_bound.mono_l : ∀ k, (∀ y0 y1 y2 y3 y4 y5 y6 y7 y8 y9 y10 y11 y12 y13 y14 y15 y16 y17 y18 y19 y20 y21 y22 y23 y24 y25 y26 y27 y28 y29 y30 y31 y32 y33 y34 y35 y36, LeO (bounds_bound.l0 k y0 y1 y2 y3 y4 y5 y6 y7 y8 y9 y10 y11 y12 y13 y14 y15 y16 y17 y18 y19 y20 y21 y22 y23 y24 y25 y26 y27 y28 y29 y30 y31 y32 y33 y34 y35 y36) (bounds_bound.l0 (k + 1) y0 y1 y2 y3 y4 y5 y6 y7 y8 y9 y10 y11 y12 y13 y14 y15 y16 y17 y18 y19 y20 y21 y22 y23 y24 y25 y26 y27 y28 y29 y30 y31 y32 y33 y34 y35 y36)) ∧ (∀ y0 y1 y2 y3 y4 y5 y6 y7 y8 y9 y10 y11 y12 y13 y14 y15 y16 y17 y18 y19 y20 y21 y22, LeO (bounds_bound.j1 k y0 y1 y2 y3 y4 y5 y6 y7 y8 y9 y10 y11 y12 y13 y14 y15 y16 y17 y18 y19 y20 y21 y22) (bounds_bound.j1 (k + 1) y0 y1 y2 y3 y4 y5 y6 y7 y8 y9 y10 y11 y12 y13 y14 y15 y16 y17 y18 y19 y20 y21 y22))
  | 0 => ⟨fun _ _ _ _ _ _ _ _ _ _ _ _ _ _ _ _ _ _ _ _ _ _ _ _ _ _ _ _ _ _ _ _ _ _ _ _ _ r h => by simp [bounds_bound.l0] at h, fun _ _ _ _ _ _ _ _ _ _ _ _ _ _ _ _ _ _ _ _ _ _ _ r h => by simp [bounds_bound.j1] at h⟩
  | k + 1 => by
    obtain ⟨ih0, ih1⟩ := bounds_bound.mono_l k
    refine ⟨?_, ?_⟩
    · intro y0 y1 y2 y3 y4 y5 y6 y7 y8 y9 y10 y11 y12 y13 y14 y15 y16 y17 y18 y19 y20 y21 y22 y23 y24 y25 y26 y27 y28 y29 y30 y31 y32 y33 y34 y35 y36
      unfold bounds_bound.l0
      repeat' first
      | (with_reducible first | exact ih0 _ _ _ _ _ _ _ _ _ _ _ _ _ _ _ _ _ _ _ _ _ _ _ _ _ _ _ _ _ _ _ _ _ _ _ _ _ | exact ih1 _ _ _ _ _ _ _ _ _ _ _ _ _ _ _ _ _ _ _ _ _ _ _ | exact LeO.refl _ | exact LeO.none _ | refine LeO.ite ?_ ?_ | refine LeO.bind ?_ (fun _ => ?_))
      | exact ih0 _ _ _ _ _ _ _ _ _ _ _ _ _ _ _ _ _ _ _ _ _ _ _ _ _ _ _ _ _ _ _ _ _ _ _ _ _ | exact ih1 _ _ _ _ _ _ _ _ _ _ _ _ _ _ _ _ _ _ _ _ _ _ _ | exact LeO.none _ | refine LeO.ite ?_ ?_ | refine LeO.bind ?_ (fun _ => ?_)
    · intro y0 y1 y2 y3 y4 y5 y6 y7 y8 y9 y10 y11 y12 y13 y14 y15 y16 y17 y18 y19 y20 y21 y22
      unfold bounds_bound.j1
      repeat' first
      | (with_reducible first | exact ih0 _ _ _ _ _ _ _ _ _ _ _ _ _ _ _ _ _ _ _ _ _ _ _ _ _ _ _ _ _ _ _ _ _ _ _ _ _ | exact ih1 _ _ _ _ _ _ _ _ _ _ _ _ _ _ _ _ _ _ _ _ _ _ _ | exact LeO.refl _ | exact LeO.none _ | refine LeO.ite ?_ ?_ | refine LeO.bind ?_ (fun _ => ?_))
      | exact ih0 _ _ _ _ _ _ _ _ _ _ _ _ _ _ _ _ _ _ _ _ _ _ _ _ _ _ _ _ _ _ _ _ _ _ _ _ _ | exact ih1 _ _ _ _ _ _ _ _ _ _ _ _ _ _ _ _ _ _ _ _ _ _ _ | exact LeO.none _ | refine LeO.ite ?_ ?_ | refine LeO.bind ?_ (fun _ => ?_)
theorem bounds_bound.mono : ∀ a0 a1 a2 a3 a4 a5 a6 a7 a8 a9 a10 a11 a12 a13 a14 a15 a16 a17 a18 a19 a20 a21 a22 k, LeO (bounds_bound.f k a0 a1 a2 a3 a4 a5 a6 a7 a8 a9 a10 a11 a12 a13 a14 a15 a16 a17 a18 a19 a20 a21 a22) (bounds_bound.f (k + 1) a0 a1 a2 a3 a4 a5 a6 a7 a8 a9 a10 a11 a12 a13 a14 a15 a16 a17 a18 a19 a20 a21 a22) := by
  intro a0 a1 a2 a3 a4 a5 a6 a7 a8 a9 a10 a11 a12 a13 a14 a15 a16 a17 a18 a19 a20 a21 a22 k
  obtain ⟨ih0, ih1⟩ := bounds_bound.mono_l k
  unfold bounds_bound.f
  repeat' first
      | (with_reducible first | exact ih0 _ _ _ _ _ _ _ _ _ _ _ _ _ _ _ _ _ _ _ _ _ _ _ _ _ _ _ _ _ _ _ _ _ _ _ _ _ | exact ih1 _ _ _ _ _ _ _ _ _ _ _ _ _ _ _ _ _ _ _ _ _ _ _ | exact LeO.refl _ | exact LeO.none _ | refine LeO.ite ?_ ?_ | refine LeO.bind ?_ (fun _ => ?_))
      | exact ih0 _ _ _ _ _ _ _ _ _ _ _ _ _ _ _ _ _ _ _ _ _ _ _ _ _ _ _ _ _ _ _ _ _ _ _ _ _ | exact ih1 _ _ _ _ _ _ _ _ _ _ _ _ _ _ _ _ _ _ _ _ _ _ _ | exact LeO.none _ | refine LeO.ite ?_ ?_ | refine LeO.bind ?_ (fun _ => ?_)
def bounds_bound.T8 : Bool × List (List Nat × List Nat) := (true, [([], []), ([0], [0]), ([], []), ([], []), ([2, 3], [2, 3]), ([4], [4]), ([5], [5]), ([1, 6], [1, 6]), ([], []), ([8], [8]), ([], []), ([], []), ([10, 11], [10, 11]), ([12], [12]), ([13], [13]), ([9, 14], [9, 14]), ([0, 1, 2, 3, 4, 5, 6, 7, 8, 9], []), ([16, 7, 0, 1, 2, 3, 4, 5, 6, 7, 8, 9], [7, 16]), ([0, 1, 2, 3, 4, 5, 6, 7, 8, 9, 10, 11, 12, 13, 14, 15, 16, 17], []), ([18, 15, 17, 0, 1, 2, 3, 4, 5, 6, 7, 8, 9, 10, 11, 12, 13, 14, 15, 16, 17], [15, 18])])
def bounds_bound.B8 : List Nat := [0, 1, 0, 0, 12, 28, 60, 127, 0, 256, 0, 0, 3072, 7168, 15360, 32512, 1023, 66559, 262143, 524287]
theorem bounds_bound.tab8 : rtab .any (opsOf Try.f26 8) = bounds_bound.T8 := by kernel_rfl
theorem bounds_bound.bits8 : waitsOk bounds_bound.T8.2 bounds_bound.B8 = true := by kernel_rfl
def bounds_bound.T11 : Bool × List (List Nat × List Nat) := (true, [([], []), ([0], [0]), ([], []), ([], []), ([2, 3], [2, 3]), ([4], [4]), ([5], [5]), ([], []), ([7], [7]), ([], []), ([], []), ([9, 10], [9, 10]), ([11], [11]), ([12], [12]), ([8, 13], [8, 13]), ([], []), ([14, 15], [14, 15]), ([6, 16], [6, 16]), ([1, 17, 17], [1, 17]), ([0, 1, 2, 3, 4, 5, 6, 7, 8, 9, 10, 11, 12, 13, 14, 15, 16, 17, 18], []), ([19, 18, 18, 0, 1, 2, 3, 4, 5, 6, 7, 8, 9, 10, 11, 12, 13, 14, 15, 16, 17, 18], [18, 19])])
def bounds_bound.B11 : List Nat := [0, 1, 0, 0, 12, 28, 60, 0, 128, 0, 0, 1536, 3584, 7680, 16256, 0, 65408, 131068, 262143, 524287, 1048575]
theorem bounds_bound.tab11 : rtab .any (opsOf Try.f26 11) = bounds_bound.T11 := by kernel_rfl
theorem bounds_bound.bits11 : waitsOk bounds_bound.T11.2 bounds_bound.B11 = true := by kernel_rfl
def bounds_bound.T20 : Bool × List (List Nat × List Nat) := (true, [([], []), ([0], [0]), ([1], [1]), ([], []), ([3], [3]), ([4], [4]), ([2, 5], [2, 5]), ([0, 1, 2, 3, 4, 5, 6], []), ([7, 6, 6, 0, 1, 2, 3, 4, 5, 6], [6, 7])])
def bounds_bound.B20 : List Nat := [0, 1, 3, 0, 8, 24, 63, 127, 255]
theorem bounds_bound.tab20 : rtab .any (opsOf Try.f26 20) = bounds_bound.T20 := by kernel_rfl
theorem bounds_bound.bits20 : waitsOk bounds_bound.T20.2 bounds_bound.B20 = true := by kernel_rfl
def bounds_bound.T23 : Bool × List (List Nat × List Nat) := (true, [([], []), ([0], [0]), ([1], [1]), ([], []), ([3], [3]), ([2, 4], [2, 4]), ([0, 1, 2, 3, 4, 5], []), ([6, 5, 5, 0, 1, 2, 3, 4, 5], [5, 6])])
def bounds_bound.B23 : List Nat := [0, 1, 3, 0, 8, 31, 63, 127]
theorem bounds_bound.tab23 : rtab .any (opsOf Try.f26 23) = bounds_bound.T23 := by kernel_rfl
theorem bounds_bound.bits23 : waitsOk bounds_bound.T23.2 bounds_bound.B23 = true := by kernel_rfl
def bounds_bound.T25 : Bool × List (List Nat × List Nat) := (true, [([], []), ([0], [0]), ([1], [1]), ([], []), ([3], [3]), ([4], [4]), ([2, 5], [2, 5]), ([], []), ([7], [7]), ([], []), ([9], [9]), ([8, 10], [8, 10]), ([11], [11]), ([6, 12, 6], [6, 12]), ([0, 1, 2, 3, 4, 5, 6, 7, 8, 9, 10, 11, 12, 13], []), ([14, 13, 13, 0, 1, 2, 3, 4, 5, 6, 7, 8, 9, 10, 11, 12, 13], [13, 14])])
def bounds_bound.B25 : List Nat := [0, 1, 3, 0, 8, 24, 63, 0, 128, 0, 512, 1920, 3968, 8191, 16383, 32767]
theorem bounds_bound.tab25 : rtab .any (opsOf Try.f26 25) = bounds_bound.T25 := by kernel_rfl
theorem bounds_bound.bits25 : waitsOk bounds_bound.T25.2 bounds_bound.B25 = true := by kernel_rfl
set_option maxHeartbeats 8000000 in
set_option maxRecDepth 100000 in
theorem bounds_bound.calls (k : Nat) (a0_0 : Int) (A0_1 : Option Addr) (c0_1 : Nat) (l0_1 : List Int) (a0_2 : ByteArray) (a0_3 : Int) (A0_4 : Option Addr) (c0_4 : Nat) (l0_4 : List (S93)) (a0_5 : Int) (a0_6 : Int) (a0_7 : Int) (A0_8 : Option Addr) (c0_8 : Nat) (l0_8 : List Int) (A0_9 : Option Addr) (c0_9 : Nat) (l0_9 : List Int) (a0_10 : Int) (a0_11 : Int) (a0_12 : Int) (A0_13 : Option Addr) (c0_13 : Nat) (l0_13 : List (S97)) (A0_14 : Option Addr) (c0_14 : Nat) (l0_14 : List (S99)) (A0_15 : Option Addr) (c0_15 : Nat) (l0_15 : List (S50)) (A1 : Option Addr) (c1 : Nat) (l1 : List (S37)) (a2_0 : Int) (a2_1 : Int) (a2_2 : Int) (a2_3 : Int) (a2_4 : Int) (a2_5 : Int) (r1 : Int) (r2 : Int) (r3 : Int) (r4 : Int) (w : World) (hr0_1 : Kd.C (Kd.int .i64) w A0_1 l0_1.length l0_1) (hc0_1 : l0_1.length ≤ c0_1) (hr0_4 : Kd.C k93 w A0_4 l0_4.length l0_4) (hc0_4 : l0_4.length ≤ c0_4) (hr0_8 : Kd.C (Kd.int .i64) w A0_8 l0_8.length l0_8) (hc0_8 : l0_8.length ≤ c0_8) (hr0_9 : Kd.C (Kd.int .i64) w A0_9 l0_9.length l0_9) (hc0_9 : l0_9.length ≤ c0_9) (hr0_13 : Kd.C k97 w A0_13 l0_13.length l0_13) (hc0_13 : l0_13.length ≤ c0_13) (hr0_14 : Kd.C k99 w A0_14 l0_14.length l0_14) (hc0_14 : l0_14.length ≤ c0_14) (hr0_15 : Kd.C k50 w A0_15 l0_15.length l0_15) (hc0_15 : l0_15.length ≤ c0_15) (hr1 : Kd.C k37 w A1 l1.length l1) (hc1 : l1.length ≤ c1) (h : bounds_bound.f k a0_0 l0_1 a0_2 a0_3 l0_4 a0_5 a0_6 a0_7 l0_8 l0_9 a0_10 a0_11 a0_12 l0_13 l0_14 l0_15 l1 a2_0 a2_1 a2_2 a2_3 a2_4 a2_5 = some (r1, r2, r3, r4)) :
    Calls Try.prog 26 #[.agg #[.int .i64 a0_0, .slice A0_1 l0_1.length c0_1, .string a0_2, .int .i64 a0_3, .slice A0_4 l0_4.length c0_4, .int .i64 a0_5, .int .i64 a0_6, .int .i64 a0_7, .slice A0_8 l0_8.length c0_8, .slice A0_9 l0_9.length c0_9, .int .i64 a0_10, .int .i64 a0_11, .int .i64 a0_12, .slice A0_13 l0_13.length c0_13, .slice A0_14 l0_14.length c0_14, .slice A0_15 l0_15.length c0_15], .slice A1 l1.length c1, .agg #[.int .i64 a2_0, .int .i64 a2_1, .int .i64 a2_2, .int .i64 a2_3, .int .i64 a2_4, .int .i64 a2_5]] w fun e w' => e = .returned (.agg #[.int .i64 r1, .int .i64 r2, .int .i64 r3, .int .i64 r4]) ∧ Below w.heap.size w w' := by
 have hu44 := Try.underlying44
 have hu27 := Try.underlying27
 have hu37 := Try.underlying37
 have hu65 := Try.underlying65
 have HR0_1 := Aside0.mk hr0_1
 have HC0_1 := Aside0.mk hc0_1
 clear hr0_1 hc0_1
 have HR0_4 := Aside0.mk hr0_4
 have HC0_4 := Aside0.mk hc0_4
 clear hr0_4 hc0_4
 have HR0_8 := Aside0.mk hr0_8
 have HC0_8 := Aside0.mk hc0_8
 clear hr0_8 hc0_8
 have HR0_9 := Aside0.mk hr0_9
 have HC0_9 := Aside0.mk hc0_9
 clear hr0_9 hc0_9
 have HR0_13 := Aside0.mk hr0_13
 have HC0_13 := Aside0.mk hc0_13
 clear hr0_13 hc0_13
 have HR0_14 := Aside0.mk hr0_14
 have HC0_14 := Aside0.mk hc0_14
 clear hr0_14 hc0_14
 have HR0_15 := Aside0.mk hr0_15
 have HC0_15 := Aside0.mk hc0_15
 clear hr0_15 hc0_15
 have HR1 := Aside0.mk hr1
 have HC1 := Aside0.mk hc1
 clear hr1 hc1
 have HB := Aside0.mk (Below.refl w.heap.size w)
 have H : ((bounds_Own.f a0_0 l0_1 a0_2 a0_3 l0_4 a0_5 a0_6 a0_7 l0_8 l0_9 a0_10 a0_11 a0_12 l0_13 l0_14 l0_15).bind fun bt146 => ((bounds_of.f a0_0).bind fun bt149 => (bounds_bound.l0 k l1 bt146.1 bt146.2 ([] : List Int) l0_1 (l0_1.length : Int) 0 a0_0 l0_1 a0_2 a0_3 l0_4 a0_5 a0_6 a0_7 l0_8 l0_9 a0_10 a0_11 a0_12 l0_13 l0_14 l0_15 a2_0 a2_1 a2_2 a2_3 a2_4 a2_5 0 0 0 0 bt149.1 bt149.2.1 bt149.2.2.1 bt149.2.2.2.1))) = some (r1, r2, r3, r4) := h
 clear h
 replace H := Option.bind_eq_some_iff.mp H
 obtain ⟨⟨t146, t147⟩, A40, H⟩ := H
 replace H : ((bounds_of.f a0_0).bind fun bt149 => (bounds_bound.l0 k l1 t146 t147 ([] : List Int) l0_1 (l0_1.length : Int) 0 a0_0 l0_1 a0_2 a0_3 l0_4 a0_5 a0_6 a0_7 l0_8 l0_9 a0_10 a0_11 a0_12 l0_13 l0_14 l0_15 a2_0 a2_1 a2_2 a2_3 a2_4 a2_5 0 0 0 0 bt149.1 bt149.2.1 bt149.2.2.1 bt149.2.2.2.1)) = some (r1, r2, r3, r4) := H
 have A4 := Aside0.mk A40
 clear A40
 replace H := Option.bind_eq_some_iff.mp H
 obtain ⟨⟨t149, t150, t151, t152, t153⟩, A50, H⟩ := H
 replace H : (bounds_bound.l0 k l1 t146 t147 ([] : List Int) l0_1 (l0_1.length : Int) 0 a0_0 l0_1 a0_2 a0_3 l0_4 a0_5 a0_6 a0_7 l0_8 l0_9 a0_10 a0_11 a0_12 l0_13 l0_14 l0_15 a2_0 a2_1 a2_2 a2_3 a2_4 a2_5 0 0 0 0 t149 t150 t151 t152) = some (r1, r2, r3, r4) := H
 have A5 := Aside0.mk A50
 clear A50
 have H' := Aside0.mk H
 clear H
 go_enter Try.func26, Try.ntmps26
 go_wp2_with (first | ((with_reducible refine gate_dst (N := 3) rfl ?_); refine box_event ?hg (N := 3) ?hd (cs := #[.int .i64 a0_0, .slice A0_1 l0_1.length c0_1, .string a0_2, .int .i64 a0_3, .slice A0_4 l0_4.length c0_4, .int .i64 a0_5, .int .i64 a0_6, .int .i64 a0_7, .slice A0_8 l0_8.length c0_8, .slice A0_9 l0_9.length c0_9, .int .i64 a0_10, .int .i64 a0_11, .int .i64 a0_12, .slice A0_13 l0_13.length c0_13, .slice A0_14 l0_14.length c0_14, .slice A0_15 l0_15.length c0_15]) (t := 44) ?hr ?_; (case hd => rfl); (case hg => rfl); (case hr => first | (go_simp; done) | (go_simp; rfl)); intro gb143 hg w6 hbox hb; have n0_ := Aside0.mk (below_stepA hb); have n1_ := Aside0.mk (hbox); have n2_ := Aside0.mk ((by rw [hg]; exact below_sizeA : w.heap.size ≤ gb143)); have n3_ := Aside0.mk ((by rw [hg]; exact below_sizeA : w.heap.size ≤ gb143)); clear HB; have HB := n0_; have BK143 := n1_; have GW143 := n2_; have GE143 := n3_; clear n0_ n1_ n2_ n3_; clear hb hbox hg) | ((with_reducible refine gate_dst (N := 5) rfl ?_); refine box_event ?hg (N := 5) ?hd (cs := #[.int .i64 a2_0, .int .i64 a2_1, .int .i64 a2_2, .int .i64 a2_3, .int .i64 a2_4, .int .i64 a2_5]) (t := 27) ?hr ?_; (case hd => rfl); (case hg => rfl); (case hr => first | (go_simp; done) | (go_simp; rfl)); intro gb144 hg w7 hbox hb; have n0_ := Aside0.mk (blk_keepA BK143.out hb); have n1_ := Aside0.mk (below_stepA hb); have n2_ := Aside0.mk (hbox); have n3_ := Aside0.mk ((by rw [hg]; exact below_sizeA : w.heap.size ≤ gb144)); have n4_ := Aside0.mk ((by rw [hg]; exact below_sizeA : w.heap.size ≤ gb144)); have n5_ := Aside0.mk ((by rw [hg]; exact Nat.ne_of_lt (blk_ltKA BK143.out) : gb143 ≠ gb144)); have n6_ := Aside0.mk ((by rw [hg]; exact Nat.ne_of_gt (blk_ltKA BK143.out) : gb144 ≠ gb143)); clear BK143; clear HB; have BK143 := n0_; have HB := n1_; have BK144 := n2_; have GW144 := n3_; have GE144 := n4_; have NB143_144 := n5_; have NB144_143 := n6_; clear n0_ n1_ n2_ n3_ n4_ n5_ n6_; clear hb hbox hg) | ((with_reducible refine gate_dst (N := 6) rfl ?_); refine box_event ?hg (N := 6) ?hd (cs := #[.int .i64 0, .int .i64 0, .int .i64 0, .int .i64 0]) (t := 37) ?hr ?_; (case hd => rfl); (case hg => rfl); (case hr => first | (go_simp; done) | (go_simp; rfl)); intro gb145 hg w8 hbox hb; have n0_ := Aside0.mk (blk_keepA BK143.out hb); have n1_ := Aside0.mk (blk_keepA BK144.out hb); have n2_ := Aside0.mk (below_stepA hb); have n3_ := Aside0.mk (hbox); have n4_ := Aside0.mk ((by rw [hg]; exact below_sizeA : w.heap.size ≤ gb145)); have n5_ := Aside0.mk ((by rw [hg]; exact below_sizeA : w.heap.size ≤ gb145)); have n6_ := Aside0.mk ((by rw [hg]; exact Nat.ne_of_lt (blk_ltKA BK143.out) : gb143 ≠ gb145)); have n7_ := Aside0.mk ((by rw [hg]; exact Nat.ne_of_gt (blk_ltKA BK143.out) : gb145 ≠ gb143)); have n8_ := Aside0.mk ((by rw [hg]; exact Nat.ne_of_lt (blk_ltKA BK144.out) : gb144 ≠ gb145)); have n9_ := Aside0.mk ((by rw [hg]; exact Nat.ne_of_gt (blk_ltKA BK144.out) : gb145 ≠ gb144)); clear BK143; clear BK144; clear HB; have BK143 := n0_; have BK144 := n1_; have HB := n2_; have BK145 := n3_; have GW145 := n4_; have GE145 := n5_; have NB143_145 := n6_; have NB145_143 := n7_; have NB144_145 := n8_; have NB145_144 := n9_; clear n0_ n1_ n2_ n3_ n4_ n5_ n6_ n7_ n8_ n9_; clear hb hbox hg; have hnb9 := NB143_144.out; have hnc9 := NB144_143.out; have hnb10 := NB143_145.out; have hnc10 := NB145_143.out; obtain ⟨hcz11_0, hcz11_1, hcz11_2, hcz11_3, hcz11_4, hcz11_5, hcz11_6, hcz11_7, hcz11_8, hcz11_9, hcz11_10, hcz11_11, hcz11_12, hcz11_13, hcz11_14, hcz11_15, hfz11_0, hfz11_1, hfz11_2, hfz11_3, hfz11_4, hfz11_5, hfz11_6, hfz11_7, hfz11_8, hfz11_9, hfz11_10, hfz11_11, hfz11_12, hfz11_13, hfz11_14, hfz11_15⟩ := blk16 BK143.out) | ((with_reducible refine gate_callee (f := 17) rfl ?_); refine goesL_ (some 17) rfl rfl Try.func17 (by kernel_rfl) rfl #[.agg #[.int .i64 a0_0, .slice A0_1 l0_1.length c0_1, .string a0_2, .int .i64 a0_3, .slice A0_4 l0_4.length c0_4, .int .i64 a0_5, .int .i64 a0_6, .int .i64 a0_7, .slice A0_8 l0_8.length c0_8, .slice A0_9 l0_9.length c0_9, .int .i64 a0_10, .int .i64 a0_11, .int .i64 a0_12, .slice A0_13 l0_13.length c0_13, .slice A0_14 l0_14.length c0_14, .slice A0_15 l0_15.length c0_15]] rfl (by (try simp only [List.map_toArray, List.map_cons, List.map_nil]); first | done | rfl | (simp only [List.length_drop, List.length_take]; rfl)) ?_; (with_reducible refine (bounds_Own.calls a0_0 _ _ l0_1 a0_2 a0_3 _ _ l0_4 a0_5 a0_6 a0_7 _ _ l0_8 _ _ l0_9 a0_10 a0_11 a0_12 _ _ l0_13 _ _ l0_14 _ _ l0_15 t146 t147 _ ?side1 ?side2 ?side3 ?side4 ?side5 ?side6 ?side7 ?side8 ?side9 ?side10 ?side11 ?side12 ?side13 ?side14 A4.out).mono ?_); (case side1 => exact c_belowA HR0_1.out); (case side2 => exact HC0_1.out); (case side3 => exact c_belowA HR0_4.out); (case side4 => exact HC0_4.out); (case side5 => exact c_belowA HR0_8.out); (case side6 => exact HC0_8.out); (case side7 => exact c_belowA HR0_9.out); (case side8 => exact HC0_9.out); (case side9 => exact c_belowA HR0_13.out); (case side10 => exact HC0_13.out); (case side11 => exact c_belowA HR0_14.out); (case side12 => exact HC0_14.out); (case side13 => exact c_belowA HR0_15.out); (case side14 => exact HC0_15.out); rintro e w12 ⟨rfl, hb⟩; refine ⟨_, rfl, ?_⟩; have n0_ := Aside0.mk (blk_keepA BK143.out hb); have n1_ := Aside0.mk (blk_keepA BK144.out hb); have n2_ := Aside0.mk (blk_keepA BK145.out hb); have n3_ := Aside0.mk (below_stepA hb); clear BK143; clear BK144; clear BK145; clear HB; have BK143 := n0_; have BK144 := n1_; have BK145 := n2_; have HB := n3_; clear n0_ n1_ n2_ n3_; (try clear hb); (try clear hb2); (try clear hk); (try clear hi)) | ((with_reducible refine gate_dst (N := 9) rfl ?_); refine box_event ?hg (N := 9) ?hd (cs := #[.int .i64 0, .int .i64 0, .int .i64 0, .int .i64 0]) (t := 37) ?hr ?_; (case hd => rfl); (case hg => rfl); (case hr => first | (go_simp; done) | (go_simp; rfl)); intro gb148 hg w13 hbox hb; have n0_ := Aside0.mk (blk_keepA BK143.out hb); have n1_ := Aside0.mk (blk_keepA BK144.out hb); have n2_ := Aside0.mk (blk_keepA BK145.out hb); have n3_ := Aside0.mk (below_stepA hb); have n4_ := Aside0.mk (hbox); have n5_ := Aside0.mk ((by rw [hg]; exact below_sizeA : w.heap.size ≤ gb148)); have n6_ := Aside0.mk ((by rw [hg]; exact below_sizeA : w.heap.size ≤ gb148)); have n7_ := Aside0.mk ((by rw [hg]; exact Nat.ne_of_lt (blk_ltKA BK143.out) : gb143 ≠ gb148)); have n8_ := Aside0.mk ((by rw [hg]; exact Nat.ne_of_gt (blk_ltKA BK143.out) : gb148 ≠ gb143)); have n9_ := Aside0.mk ((by rw [hg]; exact Nat.ne_of_lt (blk_ltKA BK144.out) : gb144 ≠ gb148)); have n10_ := Aside0.mk ((by rw [hg]; exact Nat.ne_of_gt (blk_ltKA BK144.out) : gb148 ≠ gb144)); have n11_ := Aside0.mk ((by rw [hg]; exact Nat.ne_of_lt (blk_ltKA BK145.out) : gb145 ≠ gb148)); have n12_ := Aside0.mk ((by rw [hg]; exact Nat.ne_of_gt (blk_ltKA BK145.out) : gb148 ≠ gb145)); clear BK143; clear BK144; clear BK145; clear HB; have BK143 := n0_; have BK144 := n1_; have BK145 := n2_; have HB := n3_; have BK148 := n4_; have GW148 := n5_; have GE148 := n6_; have NB143_148 := n7_; have NB148_143 := n8_; have NB144_148 := n9_; have NB148_144 := n10_; have NB145_148 := n11_; have NB148_145 := n12_; clear n0_ n1_ n2_ n3_ n4_ n5_ n6_ n7_ n8_ n9_ n10_ n11_ n12_; clear hb hbox hg; have hnb14 := NB143_148.out; have hnc14 := NB148_143.out; obtain ⟨hcz15_0, hcz15_1, hcz15_2, hcz15_3, hcz15_4, hcz15_5, hcz15_6, hcz15_7, hcz15_8, hcz15_9, hcz15_10, hcz15_11, hcz15_12, hcz15_13, hcz15_14, hcz15_15, hfz15_0, hfz15_1, hfz15_2, hfz15_3, hfz15_4, hfz15_5, hfz15_6, hfz15_7, hfz15_8, hfz15_9, hfz15_10, hfz15_11, hfz15_12, hfz15_13, hfz15_14, hfz15_15⟩ := blk16 BK143.out) | ((with_reducible refine gate_callee (f := 27) rfl ?_); refine goesL_ (some 23) rfl rfl Try.func27 (by kernel_rfl) rfl #[.int .i64 a0_0] rfl (by (try simp only [List.map_toArray, List.map_cons, List.map_nil]); first | done | rfl | (simp only [List.length_drop, List.length_take]; rfl)) ?_; (with_reducible refine (bounds_of.calls a0_0 t149 t150 t151 t152 t153 _ A5.out).mono ?_); rintro e w16 ⟨rfl, hb⟩; refine ⟨_, rfl, ?_⟩; have n0_ := Aside0.mk (blk_keepA BK143.out hb); have n1_ := Aside0.mk (blk_keepA BK144.out hb); have n2_ := Aside0.mk (blk_keepA BK145.out hb); have n3_ := Aside0.mk (blk_keepA BK148.out hb); have n4_ := Aside0.mk (below_stepA hb); clear BK143; clear BK144; clear BK145; clear BK148; clear HB; have BK143 := n0_; have BK144 := n1_; have BK145 := n2_; have BK148 := n3_; have HB := n4_; clear n0_ n1_ n2_ n3_ n4_; (try clear hb); (try clear hb2); (try clear hk); (try clear hi)) | ((with_reducible refine gate_dst (N := 11) rfl ?_); refine box_event ?hg (N := 11) ?hd (cs := #[.int .i64 0, fnV (none : Option Nat), fnV (none : Option Nat), .bool false]) (t := 65) ?hr ?_; (case hd => rfl); (case hg => rfl); (case hr => first | (go_simp; done) | (go_simp; rfl)); intro gb154 hg w17 hbox hb; have n0_ := Aside0.mk (blk_keepA BK143.out hb); have n1_ := Aside0.mk (blk_keepA BK144.out hb); have n2_ := Aside0.mk (blk_keepA BK145.out hb); have n3_ := Aside0.mk (blk_keepA BK148.out hb); have n4_ := Aside0.mk (below_stepA hb); have n5_ := Aside0.mk (hbox); have n6_ := Aside0.mk ((by rw [hg]; exact below_sizeA : w.heap.size ≤ gb154)); have n7_ := Aside0.mk ((by rw [hg]; exact below_sizeA : w.heap.size ≤ gb154)); have n8_ := Aside0.mk ((by rw [hg]; exact Nat.ne_of_lt (blk_ltKA BK143.out) : gb143 ≠ gb154)); have n9_ := Aside0.mk ((by rw [hg]; exact Nat.ne_of_gt (blk_ltKA BK143.out) : gb154 ≠ gb143)); have n10_ := Aside0.mk ((by rw [hg]; exact Nat.ne_of_lt (blk_ltKA BK144.out) : gb144 ≠ gb154)); have n11_ := Aside0.mk ((by rw [hg]; exact Nat.ne_of_gt (blk_ltKA BK144.out) : gb154 ≠ gb144)); have n12_ := Aside0.mk ((by rw [hg]; exact Nat.ne_of_lt (blk_ltKA BK145.out) : gb145 ≠ gb154)); have n13_ := Aside0.mk ((by rw [hg]; exact Nat.ne_of_gt (blk_ltKA BK145.out) : gb154 ≠ gb145)); have n14_ := Aside0.mk ((by rw [hg]; exact Nat.ne_of_lt (blk_ltKA BK148.out) : gb148 ≠ gb154)); have n15_ := Aside0.mk ((by rw [hg]; exact Nat.ne_of_gt (blk_ltKA BK148.out) : gb154 ≠ gb148)); clear BK143; clear BK144; clear BK145; clear BK148; clear HB; have BK143 := n0_; have BK144 := n1_; have BK145 := n2_; have BK148 := n3_; have HB := n4_; have BK154 := n5_; have GW154 := n6_; have GE154 := n7_; have NB143_154 := n8_; have NB154_143 := n9_; have NB144_154 := n10_; have NB154_144 := n11_; have NB145_154 := n12_; have NB154_145 := n13_; have NB148_154 := n14_; have NB154_148 := n15_; clear n0_ n1_ n2_ n3_ n4_ n5_ n6_ n7_ n8_ n9_ n10_ n11_ n12_ n13_ n14_ n15_; clear hb hbox hg; have hnb18 := NB154_143.out; have hnc18 := NB143_154.out; have hnb19 := NB154_144.out; have hnc19 := NB144_154.out; have hnb20 := NB154_145.out; have hnc20 := NB145_154.out; have hnb21 := NB154_148.out; have hnc21 := NB148_154.out; obtain ⟨hcz22_0, hcz22_1, hcz22_2, hcz22_3, hfz22_0, hfz22_1, hfz22_2, hfz22_3⟩ := blk4 BK154.out; obtain ⟨hcz23_0, hcz23_1, hcz23_2, hcz23_3, hcz23_4, hcz23_5, hcz23_6, hcz23_7, hcz23_8, hcz23_9, hcz23_10, hcz23_11, hcz23_12, hcz23_13, hcz23_14, hcz23_15, hfz23_0, hfz23_1, hfz23_2, hfz23_3, hfz23_4, hfz23_5, hfz23_6, hfz23_7, hfz23_8, hfz23_9, hfz23_10, hfz23_11, hfz23_12, hfz23_13, hfz23_14, hfz23_15⟩ := blk16 BK143.out))
 go_loopg [10, 29] k (fun kq v10 v29 w' => ∃ (x10_1 : List Int) (x29_1 : Int) (x149000_1 : Int) (x149001_1 : Int) (x149003_1 : Int), v29 = .int .i64 x29_1 ∧ Aside0 (bounds_bound.l0 kq l1 t146 t147 x10_1 l0_1 (l0_1.length : Int) x29_1 a0_0 l0_1 a0_2 a0_3 l0_4 a0_5 a0_6 a0_7 l0_8 l0_9 a0_10 a0_11 a0_12 l0_13 l0_14 l0_15 a2_0 a2_1 a2_2 a2_3 a2_4 a2_5 x149000_1 x149001_1 0 x149003_1 t149 t150 t151 t152 = some (r1, r2, r3, r4)) ∧ Aside0 (kq ≤ k) ∧ Aside0 (Kd.R (Kd.int .i64) 3 w' w.heap.size (fun _ => True) v10 x10_1) ∧ Aside0 (w'.heap[gb143]? = some (.cells #[.int .i64 a0_0, (.slice A0_1 l0_1.length c0_1), .string a0_2, .int .i64 a0_3, (.slice A0_4 l0_4.length c0_4), .int .i64 a0_5, .int .i64 a0_6, .int .i64 a0_7, (.slice A0_8 l0_8.length c0_8), (.slice A0_9 l0_9.length c0_9), .int .i64 a0_10, .int .i64 a0_11, .int .i64 a0_12, (.slice A0_13 l0_13.length c0_13), (.slice A0_14 l0_14.length c0_14), (.slice A0_15 l0_15.length c0_15)] 44 (0, 0))) ∧ Aside0 (w'.heap[gb144]? = some (.cells #[.int .i64 a2_0, .int .i64 a2_1, .int .i64 a2_2, .int .i64 a2_3, .int .i64 a2_4, .int .i64 a2_5] 27 (0, 0))) ∧ Aside0 (w'.heap[gb145]? = some (.cells #[.int .i64 0, .int .i64 0, .int .i64 0, .int .i64 0] 37 (0, 0))) ∧ Aside0 (w'.heap[gb148]? = some (.cells #[.int .i64 x149000_1, .int .i64 x149001_1, .int .i64 0, .int .i64 x149003_1] 37 (0, 0))) ∧ Aside0 (w'.heap[gb154]? = some (.cells #[.int .i64 t149, fnV t150, fnV t151, .bool t152] 65 (0, 0))) ∧ Aside0 (Below w.heap.size w w'))
 case atStart => exact ⟨(([] : List Int)), (0), (0), (0), (0), (by first | rfl | (simp; done) | (simp [*]; done)), H', ⟨Nat.le_refl _⟩, ⟨by first | exact Kd.R_nil _ _ _ _ _ | exact Kd.N_nil _ _ _ _ _ | exact Kd.V_nil _ _ _ _ _ | exact Kd.Q_nil _ _ _ _ _ | exact Kd.S_nil _ _ _ _ _⟩, ⟨by (with_reducible repeat (first | refine blk_drewN ?_ _ | refine blk_drew ?_ | refine blk_alloc ?_ _)); refine blk_far ?_ NB143_154.out _; (with_reducible repeat (first | refine blk_drewN ?_ _ | refine blk_drew ?_ | refine blk_alloc ?_ _)); refine blk_far ?_ NB143_154.out _; (with_reducible repeat (first | refine blk_drewN ?_ _ | refine blk_drew ?_ | refine blk_alloc ?_ _)); refine blk_far ?_ NB143_154.out _; (with_reducible repeat (first | refine blk_drewN ?_ _ | refine blk_drew ?_ | refine blk_alloc ?_ _)); refine blk_far ?_ NB143_154.out _; (with_reducible repeat (first | refine blk_drewN ?_ _ | refine blk_drew ?_ | refine blk_alloc ?_ _)); exact BK143.out⟩, ⟨by (with_reducible repeat (first | refine blk_drewN ?_ _ | refine blk_drew ?_ | refine blk_alloc ?_ _)); refine blk_far ?_ NB144_154.out _; (with_reducible repeat (first | refine blk_drewN ?_ _ | refine blk_drew ?_ | refine blk_alloc ?_ _)); refine blk_far ?_ NB144_154.out _; (with_reducible repeat (first | refine blk_drewN ?_ _ | refine blk_drew ?_ | refine blk_alloc ?_ _)); refine blk_far ?_ NB144_154.out _; (with_reducible repeat (first | refine blk_drewN ?_ _ | refine blk_drew ?_ | refine blk_alloc ?_ _)); refine blk_far ?_ NB144_154.out _; (with_reducible repeat (first | refine blk_drewN ?_ _ | refine blk_drew ?_ | refine blk_alloc ?_ _)); exact BK144.out⟩, ⟨by (with_reducible repeat (first | refine blk_drewN ?_ _ | refine blk_drew ?_ | refine blk_alloc ?_ _)); refine blk_far ?_ NB145_154.out _; (with_reducible repeat (first | refine blk_drewN ?_ _ | refine blk_drew ?_ | refine blk_alloc ?_ _)); refine blk_far ?_ NB145_154.out _; (with_reducible repeat (first | refine blk_drewN ?_ _ | refine blk_drew ?_ | refine blk_alloc ?_ _)); refine blk_far ?_ NB145_154.out _; (with_reducible repeat (first | refine blk_drewN ?_ _ | refine blk_drew ?_ | refine blk_alloc ?_ _)); refine blk_far ?_ NB145_154.out _; (with_reducible repeat (first | refine blk_drewN ?_ _ | refine blk_drew ?_ | refine blk_alloc ?_ _)); exact BK145.out⟩, ⟨by (with_reducible repeat (first | refine blk_drewN ?_ _ | refine blk_drew ?_ | refine blk_alloc ?_ _)); refine blk_far ?_ NB148_154.out _; (with_reducible repeat (first | refine blk_drewN ?_ _ | refine blk_drew ?_ | refine blk_alloc ?_ _)); refine blk_far ?_ NB148_154.out _; (with_reducible repeat (first | refine blk_drewN ?_ _ | refine blk_drew ?_ | refine blk_alloc ?_ _)); refine blk_far ?_ NB148_154.out _; (with_reducible repeat (first | refine blk_drewN ?_ _ | refine blk_drew ?_ | refine blk_alloc ?_ _)); refine blk_far ?_ NB148_154.out _; (with_reducible repeat (first | refine blk_drewN ?_ _ | refine blk_drew ?_ | refine blk_alloc ?_ _)); exact BK148.out⟩, ⟨by (with_reducible repeat (first | refine blk_drewN ?_ _ | refine blk_drew ?_ | refine blk_alloc ?_ _)); refine blk_put (cs := #[.int .i64 t149, fnV t150, fnV t151, .bool false]) ?_ 3 _ rfl; (with_reducible repeat (first | refine blk_drewN ?_ _ | refine blk_drew ?_ | refine blk_alloc ?_ _)); refine blk_put (cs := #[.int .i64 t149, fnV t150, fnV (none : Option Nat), .bool false]) ?_ 2 _ rfl; (with_reducible repeat (first | refine blk_drewN ?_ _ | refine blk_drew ?_ | refine blk_alloc ?_ _)); refine blk_put (cs := #[.int .i64 t149, fnV (none : Option Nat), fnV (none : Option Nat), .bool false]) ?_ 1 _ rfl; (with_reducible repeat (first | refine blk_drewN ?_ _ | refine blk_drew ?_ | refine blk_alloc ?_ _)); refine blk_put (cs := #[.int .i64 0, fnV (none : Option Nat), fnV (none : Option Nat), .bool false]) ?_ 0 _ rfl; (with_reducible repeat (first | refine blk_drewN ?_ _ | refine blk_drew ?_ | refine blk_alloc ?_ _)); exact BK154.out⟩, ⟨by repeat (first | (with_reducible first | exact HB.out | apply below_alloc | apply pw_below_drewN | apply below_drew1 | refine below_set ?_ GE143.out | refine below_set ?_ GE144.out | refine below_set ?_ GE145.out | refine below_set ?_ GE148.out | refine below_set ?_ GE154.out) | exact HB.out)⟩⟩
 case round =>
  clear H'
  try clear c1
  try clear c2
  try clear p2
  try clear c9
  try clear c10
  try clear c14
  try clear c17
  try clear c18
  try clear c19
  try clear c20
  try clear c21
  try clear hcz11_0
  try clear hcz11_1
  try clear hcz11_10
  try clear hcz11_11
  try clear hcz11_12
  try clear hcz11_13
  try clear hcz11_14
  try clear hcz11_15
  try clear hcz11_2
  try clear hcz11_3
  try clear hcz11_4
  try clear hcz11_5
  try clear hcz11_6
  try clear hcz11_7
  try clear hcz11_8
  try clear hcz11_9
  try clear hcz15_0
  try clear hcz15_1
  try clear hcz15_10
  try clear hcz15_11
  try clear hcz15_12
  try clear hcz15_13
  try clear hcz15_14
  try clear hcz15_15
  try clear hcz15_2
  try clear hcz15_3
  try clear hcz15_4
  try clear hcz15_5
  try clear hcz15_6
  try clear hcz15_7
  try clear hcz15_8
  try clear hcz15_9
  try clear hcz22_0
  try clear hcz22_1
  try clear hcz22_2
  try clear hcz22_3
  try clear hcz23_0
  try clear hcz23_1
  try clear hcz23_10
  try clear hcz23_11
  try clear hcz23_12
  try clear hcz23_13
  try clear hcz23_14
  try clear hcz23_15
  try clear hcz23_2
  try clear hcz23_3
  try clear hcz23_4
  try clear hcz23_5
  try clear hcz23_6
  try clear hcz23_7
  try clear hcz23_8
  try clear hcz23_9
  try clear hfz11_0
  try clear hfz11_1
  try clear hfz11_10
  try clear hfz11_11
  try clear hfz11_12
  try clear hfz11_13
  try clear hfz11_14
  try clear hfz11_15
  try clear hfz11_2
  try clear hfz11_3
  try clear hfz11_4
  try clear hfz11_5
  try clear hfz11_6
  try clear hfz11_7
  try clear hfz11_8
  try clear hfz11_9
  try clear hfz15_0
  try clear hfz15_1
  try clear hfz15_10
  try clear hfz15_11
  try clear hfz15_12
  try clear hfz15_13
  try clear hfz15_14
  try clear hfz15_15
  try clear hfz15_2
  try clear hfz15_3
  try clear hfz15_4
  try clear hfz15_5
  try clear hfz15_6
  try clear hfz15_7
  try clear hfz15_8
  try clear hfz15_9
  try clear hfz22_0
  try clear hfz22_1
  try clear hfz22_2
  try clear hfz22_3
  try clear hfz23_0
  try clear hfz23_1
  try clear hfz23_10
  try clear hfz23_11
  try clear hfz23_12
  try clear hfz23_13
  try clear hfz23_14
  try clear hfz23_15
  try clear hfz23_2
  try clear hfz23_3
  try clear hfz23_4
  try clear hfz23_5
  try clear hfz23_6
  try clear hfz23_7
  try clear hfz23_8
  try clear hfz23_9
  obtain ⟨x10_1, x29_1, x149000_1, x149001_1, x149003_1, rfl, HA, HK1, HO_10, BK143, BK144, BK145, BK148, BK154, HB⟩ := hrel
  cases gk with
  | zero => exact absurd HA.out (by simp [bounds_bound.l0])
  | succ k1 =>
   have H := HA.out
   clear HA
   simp only [bounds_bound.l0] at H
   by_cases c24 : x29_1 < (l0_1.length : Int)
   ·
    rw [if_pos c24] at H
    have c24b0 : decide (x29_1 < (l0_1.length : Int)) = true := decide_eq_true c24
    clear c24
    by_cases c25 : 0 ≤ x29_1
    ·
     rw [if_pos c25] at H
     have c25b0 : decide (0 ≤ x29_1) = true := decide_eq_true c25
     clear c25
     by_cases c26 : x29_1 < (l0_1.length : Int)
     ·
      rw [if_pos c26] at H
      have c26b0 : decide (x29_1 < (l0_1.length : Int)) = true := decide_eq_true c26
      clear c26
      by_cases c27 : 0 ≤ (rd l0_1 x29_1)
      ·
       rw [if_pos c27] at H
       have c27b0 : decide (0 ≤ (rd l0_1 x29_1)) = true := decide_eq_true c27
       clear c27
       by_cases c28 : (rd l0_1 x29_1) < (l1.length : Int)
       ·
        rw [if_pos c28] at H
        have c28b0 : decide ((rd l0_1 x29_1) < (l1.length : Int)) = true := decide_eq_true c28
        clear c28
        obtain ⟨ji29, hji29⟩ : ∃ j_ : Int, (mx x149000_1 ((rd_T37 l1 (rd l0_1 x29_1)).f0)) = j_ := ⟨_, rfl⟩
        replace H : (if x10_1.length < 17592186044416 then ((some (x10_1 ++ [(rd_T37 l1 (rd l0_1 x29_1)).f2] : List Int)).bind fun y159 => (if t152 = true then ((bounds_times.f ((rd_T37 l1 (rd l0_1 x29_1)).f2) (wrap64 ((wrap64 (a2_5 + ((rd_T37 l1 (rd l0_1 x29_1)).f1))) + t146))).bind fun t164 => ((bounds_plus.f x149003_1 t164).bind fun t165 => (bounds_bound.l0 k1 l1 t146 t147 y159 l0_1 (l0_1.length : Int) (wrap64 (x29_1 + 1)) a0_0 l0_1 a0_2 a0_3 l0_4 a0_5 a0_6 a0_7 l0_8 l0_9 a0_10 a0_11 a0_12 l0_13 l0_14 l0_15 a2_0 a2_1 a2_2 a2_3 a2_4 a2_5 ji29 (mx x149001_1 ((rd_T37 l1 (rd l0_1 x29_1)).f1)) 0 t165 t149 t150 t151 t152))) else (bounds_bound.l0 k1 l1 t146 t147 y159 l0_1 (l0_1.length : Int) (wrap64 (x29_1 + 1)) a0_0 l0_1 a0_2 a0_3 l0_4 a0_5 a0_6 a0_7 l0_8 l0_9 a0_10 a0_11 a0_12 l0_13 l0_14 l0_15 a2_0 a2_1 a2_2 a2_3 a2_4 a2_5 ji29 (mx x149001_1 ((rd_T37 l1 (rd l0_1 x29_1)).f1)) 0 x149003_1 t149 t150 t151 t152))) else (none)) = some (r1, r2, r3, r4) := by first | (rw [hji29] at H; exact H) | (simp only [hji29] at H ⊢; exact H)
        have hji29_ : (if x149000_1 < ((rd_T37 l1 (rd l0_1 x29_1)).f0) then ((rd_T37 l1 (rd l0_1 x29_1)).f0) else x149000_1) = ji29 := hji29
        obtain ⟨ji30, hji30⟩ : ∃ j_ : Int, (mx x149001_1 ((rd_T37 l1 (rd l0_1 x29_1)).f1)) = j_ := ⟨_, rfl⟩
        replace H : (if x10_1.length < 17592186044416 then ((some (x10_1 ++ [(rd_T37 l1 (rd l0_1 x29_1)).f2] : List Int)).bind fun y159 => (if t152 = true then ((bounds_times.f ((rd_T37 l1 (rd l0_1 x29_1)).f2) (wrap64 ((wrap64 (a2_5 + ((rd_T37 l1 (rd l0_1 x29_1)).f1))) + t146))).bind fun t164 => ((bounds_plus.f x149003_1 t164).bind fun t165 => (bounds_bound.l0 k1 l1 t146 t147 y159 l0_1 (l0_1.length : Int) (wrap64 (x29_1 + 1)) a0_0 l0_1 a0_2 a0_3 l0_4 a0_5 a0_6 a0_7 l0_8 l0_9 a0_10 a0_11 a0_12 l0_13 l0_14 l0_15 a2_0 a2_1 a2_2 a2_3 a2_4 a2_5 ji29 ji30 0 t165 t149 t150 t151 t152))) else (bounds_bound.l0 k1 l1 t146 t147 y159 l0_1 (l0_1.length : Int) (wrap64 (x29_1 + 1)) a0_0 l0_1 a0_2 a0_3 l0_4 a0_5 a0_6 a0_7 l0_8 l0_9 a0_10 a0_11 a0_12 l0_13 l0_14 l0_15 a2_0 a2_1 a2_2 a2_3 a2_4 a2_5 ji29 ji30 0 x149003_1 t149 t150 t151 t152))) else (none)) = some (r1, r2, r3, r4) := by first | (rw [hji30] at H; exact H) | (simp only [hji30] at H ⊢; exact H)
        have hji30_ : (if x149001_1 < ((rd_T37 l1 (rd l0_1 x29_1)).f1) then ((rd_T37 l1 (rd l0_1 x29_1)).f1) else x149001_1) = ji30 := hji30
        by_cases c31 : x10_1.length < 17592186044416
        ·
         rw [if_pos c31] at H
         have LMc31 := Aside0.mk c31
         clear c31
         obtain ⟨y159, hy159⟩ : ∃ y_ : List Int, y_ = (x10_1 ++ [(rd_T37 l1 (rd l0_1 x29_1)).f2]) := ⟨_, rfl⟩
         replace H : (if t152 = true then ((bounds_times.f ((rd_T37 l1 (rd l0_1 x29_1)).f2) (wrap64 ((wrap64 (a2_5 + ((rd_T37 l1 (rd l0_1 x29_1)).f1))) + t146))).bind fun t164 => ((bounds_plus.f x149003_1 t164).bind fun t165 => (bounds_bound.l0 k1 l1 t146 t147 y159 l0_1 (l0_1.length : Int) (wrap64 (x29_1 + 1)) a0_0 l0_1 a0_2 a0_3 l0_4 a0_5 a0_6 a0_7 l0_8 l0_9 a0_10 a0_11 a0_12 l0_13 l0_14 l0_15 a2_0 a2_1 a2_2 a2_3 a2_4 a2_5 ji29 ji30 0 t165 t149 t150 t151 t152))) else (bounds_bound.l0 k1 l1 t146 t147 y159 l0_1 (l0_1.length : Int) (wrap64 (x29_1 + 1)) a0_0 l0_1 a0_2 a0_3 l0_4 a0_5 a0_6 a0_7 l0_8 l0_9 a0_10 a0_11 a0_12 l0_13 l0_14 l0_15 a2_0 a2_1 a2_2 a2_3 a2_4 a2_5 ji29 ji30 0 x149003_1 t149 t150 t151 t152)) = some (r1, r2, r3, r4) := by first | (rw [hy159]; with_reducible exact H) | (have H2_ := (Option.bind_some _ _).symm.trans H; rw [hy159]; with_reducible exact H2_) | (have H2_ := (Option.bind_some _ _).symm.trans H; with_reducible exact H2_) | with_reducible exact H | (rw [hy159]; exact H) | exact H
         have Ny159 := Aside0.mk hy159
         clear hy159
         by_cases c32 : t152 = true
         ·
          subst c32
          have H1 : ((bounds_times.f ((rd_T37 l1 (rd l0_1 x29_1)).f2) (wrap64 ((wrap64 (a2_5 + ((rd_T37 l1 (rd l0_1 x29_1)).f1))) + t146))).bind fun t164 => ((bounds_plus.f x149003_1 t164).bind fun t165 => (bounds_bound.l0 k1 l1 t146 t147 y159 l0_1 (l0_1.length : Int) (wrap64 (x29_1 + 1)) a0_0 l0_1 a0_2 a0_3 l0_4 a0_5 a0_6 a0_7 l0_8 l0_9 a0_10 a0_11 a0_12 l0_13 l0_14 l0_15 a2_0 a2_1 a2_2 a2_3 a2_4 a2_5 ji29 ji30 0 t165 t149 t150 t151 true))) = some (r1, r2, r3, r4) := by rw [if_pos rfl] at H; exact H
          clear H
          have H := H1
          clear H1
          replace H := Option.bind_eq_some_iff.mp H
          obtain ⟨t164, A330, H⟩ := H
          replace H : ((bounds_plus.f x149003_1 t164).bind fun t165 => (bounds_bound.l0 k1 l1 t146 t147 y159 l0_1 (l0_1.length : Int) (wrap64 (x29_1 + 1)) a0_0 l0_1 a0_2 a0_3 l0_4 a0_5 a0_6 a0_7 l0_8 l0_9 a0_10 a0_11 a0_12 l0_13 l0_14 l0_15 a2_0 a2_1 a2_2 a2_3 a2_4 a2_5 ji29 ji30 0 t165 t149 t150 t151 true)) = some (r1, r2, r3, r4) := H
          have A33 := Aside0.mk A330
          clear A330
          replace H := Option.bind_eq_some_iff.mp H
          obtain ⟨t165, A340, H⟩ := H
          replace H : (bounds_bound.l0 k1 l1 t146 t147 y159 l0_1 (l0_1.length : Int) (wrap64 (x29_1 + 1)) a0_0 l0_1 a0_2 a0_3 l0_4 a0_5 a0_6 a0_7 l0_8 l0_9 a0_10 a0_11 a0_12 l0_13 l0_14 l0_15 a2_0 a2_1 a2_2 a2_3 a2_4 a2_5 ji29 ji30 0 t165 t149 t150 t151 true) = some (r1, r2, r3, r4) := H
          have A34 := Aside0.mk A340
          clear A340
          have H' := Aside0.mk H
          clear H
          have p155 : 0 ≤ (x29_1 : Int) := of_decide_eq_true (by first | (with_reducible assumption) | assumption)
          have q155 : x29_1 < (l0_1.length : Int) := of_decide_eq_true (by first | (with_reducible assumption) | assumption)
          obtain ⟨ad155, e155, hx155_0⟩ := Kd.at_int HR0_1.out x29_1 p155 q155
          cases e155
          replace hx155_0 := (HB.out.cell (World.block_lt_of_cell? w _ hx155_0)).trans hx155_0
          replace p155 := eq_true p155
          replace q155 := eq_true q155
          try go_wp2
          have n0_ := Aside0.mk (Kd.R_drew HO_10.out)
          have n1_ := Aside0.mk (blk_drew BK143.out)
          have n2_ := Aside0.mk (blk_drew BK144.out)
          have n3_ := Aside0.mk (blk_drew BK145.out)
          have n4_ := Aside0.mk (blk_drew BK148.out)
          have n5_ := Aside0.mk (blk_drew BK154.out)
          have n6_ := Aside0.mk (below_drew1 HB.out)
          clear HO_10
          clear BK143
          clear BK144
          clear BK145
          clear BK148
          clear BK154
          clear HB
          have HO_10 := n0_
          have BK143 := n1_
          have BK144 := n2_
          have BK145 := n3_
          have BK148 := n4_
          have BK154 := n5_
          have HB := n6_
          clear n0_ n1_ n2_ n3_ n4_ n5_ n6_
          have p156 : 0 ≤ ((rd l0_1 x29_1) : Int) := of_decide_eq_true (by first | (with_reducible assumption) | assumption)
          have q156 : (rd l0_1 x29_1) < (l1.length : Int) := of_decide_eq_true (by first | (with_reducible assumption) | assumption)
          obtain ⟨ad156, e156, hx156_0, hx156_1, hx156_2, hx156_3⟩ := at_T37 HR1.out (rd l0_1 x29_1) p156 q156
          have hw156_3 := hx156_3
          have hw156_2 := hx156_2
          have hw156_1 := hx156_1
          have hw156_0 := hx156_0
          cases e156
          replace hx156_0 := (HB.out.cell (World.block_lt_of_cell? w _ hx156_0)).trans hx156_0
          replace hx156_1 := (HB.out.cell (World.block_lt_of_cell? w _ hx156_1)).trans hx156_1
          replace hx156_2 := (HB.out.cell (World.block_lt_of_cell? w _ hx156_2)).trans hx156_2
          replace hx156_3 := (HB.out.cell (World.block_lt_of_cell? w _ hx156_3)).trans hx156_3
          replace p156 := eq_true p156
          replace q156 := eq_true q156
          have p157 : 0 ≤ ((rd l0_1 x29_1) : Int) := of_decide_eq_true (by first | (with_reducible assumption) | assumption)
          have q157 : (rd l0_1 x29_1) < (l1.length : Int) := of_decide_eq_true (by first | (with_reducible assumption) | assumption)
          obtain ⟨ad157, e157, hx157_0, hx157_1, hx157_2, hx157_3⟩ := at_T37 HR1.out (rd l0_1 x29_1) p157 q157
          have hw157_3 := hx157_3
          have hw157_2 := hx157_2
          have hw157_1 := hx157_1
          have hw157_0 := hx157_0
          obtain rfl : ad156 = ad157 := (by injection e157)
          replace hx157_0 := (HB.out.cell (World.block_lt_of_cell? w _ hx157_0)).trans hx157_0
          replace hx157_1 := (HB.out.cell (World.block_lt_of_cell? w _ hx157_1)).trans hx157_1
          replace hx157_2 := (HB.out.cell (World.block_lt_of_cell? w _ hx157_2)).trans hx157_2
          replace hx157_3 := (HB.out.cell (World.block_lt_of_cell? w _ hx157_3)).trans hx157_3
          replace p157 := eq_true p157
          replace q157 := eq_true q157
          refine start_ (n := 20) (S := fun w' => w'.cell? ⟨gb148, 0, none⟩ = some (.int .i64 x149000_1) ∧ w'.cell? ⟨gb148, 1, none⟩ = some (.int .i64 x149001_1) ∧ w'.cell? ⟨gb148, 2, none⟩ = some (.int .i64 0) ∧ w'.cell? ⟨gb148, 3, none⟩ = some (.int .i64 x149003_1) ∧ w'.cell? (ad156.add (((rd l0_1 x29_1)).toNat * 4)) = some (.int .i64 ((rd_T37 l1 (rd l0_1 x29_1)).f0)) ∧ w'.cell? ⟨(ad156.add (((rd l0_1 x29_1)).toNat * 4)).block, (ad156.add (((rd l0_1 x29_1)).toNat * 4)).off + 1, none⟩ = some (.int .i64 ((rd_T37 l1 (rd l0_1 x29_1)).f1)) ∧ w'.cell? ⟨(ad156.add (((rd l0_1 x29_1)).toNat * 4)).block, (ad156.add (((rd l0_1 x29_1)).toNat * 4)).off + 2, none⟩ = some (.int .i64 ((rd_T37 l1 (rd l0_1 x29_1)).f2)) ∧ w'.cell? ⟨(ad156.add (((rd l0_1 x29_1)).toNat * 4)).block, (ad156.add (((rd l0_1 x29_1)).toNat * 4)).off + 3, none⟩ = some (.int .i64 ((rd_T37 l1 (rd l0_1 x29_1)).f3)) ∧ w'.cell? (ad156.add (((rd l0_1 x29_1)).toNat * 4)) = some (.int .i64 ((rd_T37 l1 (rd l0_1 x29_1)).f0)) ∧ w'.cell? ⟨(ad156.add (((rd l0_1 x29_1)).toNat * 4)).block, (ad156.add (((rd l0_1 x29_1)).toNat * 4)).off + 1, none⟩ = some (.int .i64 ((rd_T37 l1 (rd l0_1 x29_1)).f1)) ∧ w'.cell? ⟨(ad156.add (((rd l0_1 x29_1)).toNat * 4)).block, (ad156.add (((rd l0_1 x29_1)).toNat * 4)).off + 2, none⟩ = some (.int .i64 ((rd_T37 l1 (rd l0_1 x29_1)).f2)) ∧ w'.cell? ⟨(ad156.add (((rd l0_1 x29_1)).toNat * 4)).block, (ad156.add (((rd l0_1 x29_1)).toNat * 4)).off + 3, none⟩ = some (.int .i64 ((rd_T37 l1 (rd l0_1 x29_1)).f3))) (ds := [17, 19]) #[O,O,O,O,O,O,O,O,O,O,O,O,O,O,O,O,O,O,O,O] (by kernel_rfl) rfl rfl ⟨(blk_cell BK148.out 0).trans rfl, (blk_cell BK148.out 1).trans rfl, (blk_cell BK148.out 2).trans rfl, (blk_cell BK148.out 3).trans rfl, ((HB.out.cell (World.block_lt_of_cell? w _ hw156_0)).trans hw156_0), ((HB.out.cell (World.block_lt_of_cell? w _ hw156_1)).trans hw156_1), ((HB.out.cell (World.block_lt_of_cell? w _ hw156_2)).trans hw156_2), ((HB.out.cell (World.block_lt_of_cell? w _ hw156_3)).trans hw156_3), ((HB.out.cell (World.block_lt_of_cell? w _ hw157_0)).trans hw157_0), ((HB.out.cell (World.block_lt_of_cell? w _ hw157_1)).trans hw157_1), ((HB.out.cell (World.block_lt_of_cell? w _ hw157_2)).trans hw157_2), ((HB.out.cell (World.block_lt_of_cell? w _ hw157_3)).trans hw157_3)⟩ (fun hHeld => ?_); refine with_tabW bounds_bound.tab8 bounds_bound.bits8 (fun HT_ HW_ => ?_)
          generalize wr.drew = w35 at HO_10 BK143 BK144 BK145 BK148 BK154 HB hx156_0 hx156_1 hx156_2 hx156_3 hx157_0 hx157_1 hx157_2 hx157_3 hHeld ⊢
          refine pure_ (i := 0) (N := some 33) (v := ?_) (a' := ?_) #[J,O,O,O,O,O,O,O,O,O,O,O,O,O,O,O,O,O,O,O] rfl rfl (any_of HT_.out (by kernel_rfl)) (fun _ _ _ h => h) (Or.inl ⟨by rfl, ?_⟩) ?_ ?_
          rotate_left
          ·
           intro w'
           go_simp
           with_reducible rfl
          rotate_left
          ·
           simp only [Act.put, List.setIfInBounds_toArray, List.set_cons_zero, List.set_cons_succ, i64_w, i32_w]
           rfl
          refine pure_ (i := 2) (N := some 35) (v := ?_) (a' := ?_) #[J,O,J,O,O,O,O,O,O,O,O,O,O,O,O,O,O,O,O,O] rfl rfl (any_of HT_.out (by kernel_rfl)) (fun _ _ _ h => h) (Or.inl ⟨by rfl, ?_⟩) ?_ ?_
          rotate_left
          ·
           intro w'
           go_simp
           with_reducible rfl
          rotate_left
          ·
           simp only [Act.put, List.setIfInBounds_toArray, List.set_cons_zero, List.set_cons_succ, i64_w, i32_w]
           rfl
          refine pure_ (i := 3) (N := some 36) (v := ?_) (a' := ?_) #[J,O,J,J,O,O,O,O,O,O,O,O,O,O,O,O,O,O,O,O] rfl rfl (any_of HT_.out (by kernel_rfl)) (fun _ _ _ h => h) (Or.inl ⟨by rfl, ?_⟩) ?_ ?_
          rotate_left
          ·
           intro w'
           go_simp
           with_reducible rfl
          rotate_left
          ·
           simp only [Act.put, List.setIfInBounds_toArray, List.set_cons_zero, List.set_cons_succ, i64_w, i32_w]
           rfl
          refine pure_ (i := 4) (N := some 37) (v := ?_) (a' := ?_) #[J,O,J,J,J,O,O,O,O,O,O,O,O,O,O,O,O,O,O,O] rfl rfl (any_of HT_.out (by kernel_rfl)) (fun _ _ _ h => h) (Or.inl ⟨by rfl, ?_⟩) ?_ ?_
          rotate_left
          ·
           intro w'
           go_simp
           with_reducible rfl
          rotate_left
          ·
           simp only [Act.put, List.setIfInBounds_toArray, List.set_cons_zero, List.set_cons_succ, i64_w, i32_w]
           rfl
          refine pure_ (i := 5) (N := some 38) (v := ?_) (a' := ?_) #[J,O,J,J,J,J,O,O,O,O,O,O,O,O,O,O,O,O,O,O] rfl rfl (any_of HT_.out (by kernel_rfl)) (fun _ _ _ h => h) (Or.inl ⟨by rfl, ?_⟩) ?_ ?_
          rotate_left
          ·
           intro w'
           go_simp
           with_reducible rfl
          rotate_left
          ·
           simp only [Act.put, List.setIfInBounds_toArray, List.set_cons_zero, List.set_cons_succ, i64_w, i32_w]
           rfl
          refine pure_ (i := 8) (N := some 41) (v := ?_) (a' := ?_) #[J,O,J,J,J,J,O,O,J,O,O,O,O,O,O,O,O,O,O,O] rfl rfl (any_of HT_.out (by kernel_rfl)) (fun _ _ _ h => h) (Or.inl ⟨by rfl, ?_⟩) ?_ ?_
          rotate_left
          ·
           intro w'
           go_simp
           with_reducible rfl
          rotate_left
          ·
           simp only [Act.put, List.setIfInBounds_toArray, List.set_cons_zero, List.set_cons_succ, i64_w, i32_w]
           rfl
          refine pure_ (i := 10) (N := some 43) (v := ?_) (a' := ?_) #[J,O,J,J,J,J,O,O,J,O,J,O,O,O,O,O,O,O,O,O] rfl rfl (any_of HT_.out (by kernel_rfl)) (fun _ _ _ h => h) (Or.inl ⟨by rfl, ?_⟩) ?_ ?_
          rotate_left
          ·
           intro w'
           go_simp
           with_reducible rfl
          rotate_left
          ·
           simp only [Act.put, List.setIfInBounds_toArray, List.set_cons_zero, List.set_cons_succ, i64_w, i32_w]
           rfl
          refine pure_ (i := 11) (N := some 44) (v := ?_) (a' := ?_) #[J,O,J,J,J,J,O,O,J,O,J,J,O,O,O,O,O,O,O,O] rfl rfl (any_of HT_.out (by kernel_rfl)) (fun _ _ _ h => h) (Or.inl ⟨by rfl, ?_⟩) ?_ ?_
          rotate_left
          ·
           intro w'
           go_simp
           with_reducible rfl
          rotate_left
          ·
           simp only [Act.put, List.setIfInBounds_toArray, List.set_cons_zero, List.set_cons_succ, i64_w, i32_w]
           rfl
          refine pure_ (i := 12) (N := some 45) (v := ?_) (a' := ?_) #[J,O,J,J,J,J,O,O,J,O,J,J,J,O,O,O,O,O,O,O] rfl rfl (any_of HT_.out (by kernel_rfl)) (fun _ _ _ h => h) (Or.inl ⟨by rfl, ?_⟩) ?_ ?_
          rotate_left
          ·
           intro w'
           go_simp
           with_reducible rfl
          rotate_left
          ·
           simp only [Act.put, List.setIfInBounds_toArray, List.set_cons_zero, List.set_cons_succ, i64_w, i32_w]
           rfl
          refine pure_ (i := 13) (N := some 46) (v := ?_) (a' := ?_) #[J,O,J,J,J,J,O,O,J,O,J,J,J,J,O,O,O,O,O,O] rfl rfl (any_of HT_.out (by kernel_rfl)) (fun _ _ _ h => h) (Or.inl ⟨by rfl, ?_⟩) ?_ ?_
          rotate_left
          ·
           intro w'
           go_simp
           with_reducible rfl
          rotate_left
          ·
           simp only [Act.put, List.setIfInBounds_toArray, List.set_cons_zero, List.set_cons_succ, i64_w, i32_w]
           rfl
          refine take_ (i := 1) (N := some 34) (v := ?_) (a' := ?_) #[J,J,J,J,J,J,O,O,J,O,J,J,J,J,O,O,O,O,O,O] rfl rfl (take_ofW HT_.out HW_.out (by kernel_rfl)) (fun _ _ _ h => h) (Or.inl ⟨by rfl, ?_⟩) hHeld ?_ ?_
          rotate_left
          ·
           rintro w' ⟨s0, s1, s2, s3, s4, s5, s6, s7, s8, s9, s10, s11⟩
           go_simp
           with_reducible rfl
          rotate_left
          ·
           simp only [Act.put, List.setIfInBounds_toArray, List.set_cons_zero, List.set_cons_succ, i64_w, i32_w]
           rfl
          refine take_ (i := 6) (N := some 39) (v := ?_) (a' := ?_) #[J,J,J,J,J,J,J,O,J,O,J,J,J,J,O,O,O,O,O,O] rfl rfl (take_ofW HT_.out HW_.out (by kernel_rfl)) (fun _ _ _ h => h) (Or.inl ⟨by rfl, ?_⟩) hHeld ?_ ?_
          rotate_left
          ·
           rintro w' ⟨s0, s1, s2, s3, s4, s5, s6, s7, s8, s9, s10, s11⟩
           go_simp
           with_reducible rfl
          rotate_left
          ·
           simp only [Act.put, List.setIfInBounds_toArray, List.set_cons_zero, List.set_cons_succ, i64_w, i32_w]
           rfl
          refine pure_ (i := 7) (N := some 40) (v := ?_) (a' := ?_) #[J,J,J,J,J,J,J,J,J,O,J,J,J,J,O,O,O,O,O,O] rfl rfl (any_of HT_.out (by kernel_rfl)) (fun _ _ _ h => h) (Or.inl ⟨by rfl, ?_⟩) ?_ ?_
          rotate_left
          ·
           intro w'
           go_simp
           with_reducible rfl
          rotate_left
          ·
           simp only [Act.put, List.setIfInBounds_toArray, List.set_cons_zero, List.set_cons_succ, i64_w, i32_w]
           rfl
          refine take_ (i := 9) (N := some 42) (v := ?_) (a' := ?_) #[J,J,J,J,J,J,J,J,J,J,J,J,J,J,O,O,O,O,O,O] rfl rfl (take_ofW HT_.out HW_.out (by kernel_rfl)) (fun _ _ _ h => h) (Or.inl ⟨by rfl, ?_⟩) hHeld ?_ ?_
          rotate_left
          ·
           rintro w' ⟨s0, s1, s2, s3, s4, s5, s6, s7, s8, s9, s10, s11⟩
           go_simp
           with_reducible rfl
          rotate_left
          ·
           simp only [Act.put, List.setIfInBounds_toArray, List.set_cons_zero, List.set_cons_succ, i64_w, i32_w]
           rfl
          refine pure_ (i := 16) (N := some 49) (v := ?_) (a' := ?_) #[J,J,J,J,J,J,J,J,J,J,J,J,J,J,O,O,J,O,O,O] rfl rfl (any_of HT_.out (by kernel_rfl)) (fun _ _ _ h => h) (Or.inl ⟨by rfl, ?_⟩) ?_ ?_
          rotate_left
          ·
           intro w'
           go_simp
           with_reducible rfl
          rotate_left
          ·
           simp only [Act.put, List.setIfInBounds_toArray, List.set_cons_zero, List.set_cons_succ, i64_w, i32_w]
           rfl
          apply joinE2_ 2 #[J,J,J,J,J,J,J,J,J,J,J,J,J,J,J,J,J,J,O,O] 47 48
          case hmain =>
           intro hCont
           refine twoKL_ (i := 14) (j := 17) (Ni := some 47) (Nj := none) #[J,J,J,J,J,J,J,J,J,J,J,J,J,J,J,O,J,O,O,O] #[J,J,J,J,J,J,J,J,J,J,J,J,J,J,O,O,J,J,O,O] rfl rfl rfl rfl (by kernel_rfl) (by decide) (by decide) (fun K hK => ?_) (fun K hK => ?_)
           ·
            skip
            refine value_ (w1 := ?_) (v := ?_) (by rfl) rfl ?_ ?_
            rotate_left 2
            ·
             go_simp
             constructor
             ·
              rfl
             ·
              rfl
            refine hK.out _ _ (fun h_ => h_) ?_
            clear hK K
            refine norm_ (a' := ?_) ?_ ?_
            rotate_left
            ·
             show Act.put _ (some 47) _ = _
             simp only [Act.put, List.setIfInBounds_toArray, List.set_cons_zero, List.set_cons_succ, i64_w, i32_w]
             rfl
            refine pure_ (i := 15) (N := some 48) (v := ?_) (a' := ?_) #[J,J,J,J,J,J,J,J,J,J,J,J,J,J,J,J,J,O,O,O] rfl rfl (any_of HT_.out (by kernel_rfl)) (fun _ _ _ h => h) (Or.inl ⟨by rfl, ?_⟩) ?_ ?_
            rotate_left
            ·
             intro w'
             go_simp
             with_reducible rfl
            rotate_left
            ·
             simp only [Act.put, List.setIfInBounds_toArray, List.set_cons_zero, List.set_cons_succ, i64_w, i32_w]
             rfl
            refine last_ (i := 17) (N := none) #[J,J,J,J,J,J,J,J,J,J,J,J,J,J,J,J,J,J,O,O] rfl rfl (one_of HT_.out (by kernel_rfl)) (by decide) (fun K hK => ?_)
            have hs36 : w35.cell? ⟨gb148, 0, none⟩ = some (.int .i64 x149000_1) := (blk_cell BK148.out 0).trans rfl
            have hfs36 := blk_frozen BK148.out 0
            have hns36_0 := NB143_148.out
            have hns36_1 := NB144_148.out
            have hns36_2 := NB145_148.out
            have hns36_4 := NB154_148.out
            have hms36_0 := NB148_143.out
            have hms36_1 := NB148_144.out
            have hms36_2 := NB148_145.out
            have hms36_4 := NB148_154.out
            refine skip_ (w1 := ?_) (by rfl) rfl ?_ ?_
            rotate_left
            ·
             go_simp
             rfl
            refine hK.out _ _ ?_
            clear hK K
            exact norm_ (by rfl) hCont
           ·
            skip
            have hs36 : w35.cell? ⟨gb148, 0, none⟩ = some (.int .i64 x149000_1) := (blk_cell BK148.out 0).trans rfl
            have hfs36 := blk_frozen BK148.out 0
            have hns36_0 := NB143_148.out
            have hns36_1 := NB144_148.out
            have hns36_2 := NB145_148.out
            have hns36_4 := NB154_148.out
            have hms36_0 := NB148_143.out
            have hms36_1 := NB148_144.out
            have hms36_2 := NB148_145.out
            have hms36_4 := NB148_154.out
            refine skip_ (w1 := ?_) (by rfl) rfl ?_ ?_
            rotate_left
            ·
             go_simp
             rfl
            refine hK.out _ _ ?_
            clear hK K
            have hq4_ : ∀ v_ : Value, (World.setCell w35 ⟨gb148, 0, none⟩ v_).cell? (ad156.add (((rd l0_1 x29_1)).toNat * 4)) = some (.int .i64 ((rd_T37 l1 (rd l0_1 x29_1)).f0)) := fun v_ => (((below_set HB.out GE148.out).cell (World.block_lt_of_cell? w _ hw156_0)).trans hw156_0)
            have hq5_ : ∀ v_ : Value, (World.setCell w35 ⟨gb148, 0, none⟩ v_).cell? ⟨(ad156.add (((rd l0_1 x29_1)).toNat * 4)).block, (ad156.add (((rd l0_1 x29_1)).toNat * 4)).off + 1, none⟩ = some (.int .i64 ((rd_T37 l1 (rd l0_1 x29_1)).f1)) := fun v_ => (((below_set HB.out GE148.out).cell (World.block_lt_of_cell? w _ hw156_1)).trans hw156_1)
            have hq6_ : ∀ v_ : Value, (World.setCell w35 ⟨gb148, 0, none⟩ v_).cell? ⟨(ad156.add (((rd l0_1 x29_1)).toNat * 4)).block, (ad156.add (((rd l0_1 x29_1)).toNat * 4)).off + 2, none⟩ = some (.int .i64 ((rd_T37 l1 (rd l0_1 x29_1)).f2)) := fun v_ => (((below_set HB.out GE148.out).cell (World.block_lt_of_cell? w _ hw156_2)).trans hw156_2)
            have hq7_ : ∀ v_ : Value, (World.setCell w35 ⟨gb148, 0, none⟩ v_).cell? ⟨(ad156.add (((rd l0_1 x29_1)).toNat * 4)).block, (ad156.add (((rd l0_1 x29_1)).toNat * 4)).off + 3, none⟩ = some (.int .i64 ((rd_T37 l1 (rd l0_1 x29_1)).f3)) := fun v_ => (((below_set HB.out GE148.out).cell (World.block_lt_of_cell? w _ hw156_3)).trans hw156_3)
            have hq8_ : ∀ v_ : Value, (World.setCell w35 ⟨gb148, 0, none⟩ v_).cell? (ad156.add (((rd l0_1 x29_1)).toNat * 4)) = some (.int .i64 ((rd_T37 l1 (rd l0_1 x29_1)).f0)) := fun v_ => (((below_set HB.out GE148.out).cell (World.block_lt_of_cell? w _ hw157_0)).trans hw157_0)
            have hq9_ : ∀ v_ : Value, (World.setCell w35 ⟨gb148, 0, none⟩ v_).cell? ⟨(ad156.add (((rd l0_1 x29_1)).toNat * 4)).block, (ad156.add (((rd l0_1 x29_1)).toNat * 4)).off + 1, none⟩ = some (.int .i64 ((rd_T37 l1 (rd l0_1 x29_1)).f1)) := fun v_ => (((below_set HB.out GE148.out).cell (World.block_lt_of_cell? w _ hw157_1)).trans hw157_1)
            have hq10_ : ∀ v_ : Value, (World.setCell w35 ⟨gb148, 0, none⟩ v_).cell? ⟨(ad156.add (((rd l0_1 x29_1)).toNat * 4)).block, (ad156.add (((rd l0_1 x29_1)).toNat * 4)).off + 2, none⟩ = some (.int .i64 ((rd_T37 l1 (rd l0_1 x29_1)).f2)) := fun v_ => (((below_set HB.out GE148.out).cell (World.block_lt_of_cell? w _ hw157_2)).trans hw157_2)
            have hq11_ : ∀ v_ : Value, (World.setCell w35 ⟨gb148, 0, none⟩ v_).cell? ⟨(ad156.add (((rd l0_1 x29_1)).toNat * 4)).block, (ad156.add (((rd l0_1 x29_1)).toNat * 4)).off + 3, none⟩ = some (.int .i64 ((rd_T37 l1 (rd l0_1 x29_1)).f3)) := fun v_ => (((below_set HB.out GE148.out).cell (World.block_lt_of_cell? w _ hw157_3)).trans hw157_3)
            refine oneK_ (i := 14) (N := some 47) #[J,J,J,J,J,J,J,J,J,J,J,J,J,J,J,O,J,J,O,O] rfl rfl (by kernel_rfl) (fun K hK => ?_)
            refine value_ (w1 := ?_) (v := ?_) (by rfl) rfl ?_ ?_
            rotate_left 2
            ·
             go_simp
             constructor
             ·
              rfl
             ·
              rfl
            refine hK.out _ _ (fun h_ => h_) ?_
            clear hK K
            refine norm_ (a' := ?_) ?_ ?_
            rotate_left
            ·
             show Act.put _ (some 47) _ = _
             simp only [Act.put, List.setIfInBounds_toArray, List.set_cons_zero, List.set_cons_succ, i64_w, i32_w]
             rfl
            refine pure_ (i := 15) (N := some 48) (v := ?_) (a' := ?_) #[J,J,J,J,J,J,J,J,J,J,J,J,J,J,J,J,J,J,O,O] rfl rfl (any_of HT_.out (by kernel_rfl)) (fun _ _ _ h => h) (Or.inl ⟨by rfl, ?_⟩) ?_ ?_
            rotate_left
            ·
             intro w'
             go_simp
             with_reducible rfl
            rotate_left
            ·
             simp only [Act.put, List.setIfInBounds_toArray, List.set_cons_zero, List.set_cons_succ, i64_w, i32_w]
             rfl
            exact norm_ (by rfl) hCont
          refine norm_ (a' := ?_) ?_ ?_
          rotate_left
          ·
           simp only [putAll, Act.put, List.setIfInBounds_toArray, List.set_cons_zero, List.set_cons_succ]
           rfl
          refine pure_ (i := 18) (N := some 50) (v := ?_) (a' := ?_) #[J,J,J,J,J,J,J,J,J,J,J,J,J,J,J,J,J,J,J,O] rfl rfl (any_of HT_.out (by kernel_rfl)) (fun _ _ _ h => h) (Or.inl ⟨by rfl, ?_⟩) ?_ ?_
          rotate_left
          ·
           intro w'
           go_simp
           with_reducible rfl
          rotate_left
          ·
           simp only [Act.put, List.setIfInBounds_toArray, List.set_cons_zero, List.set_cons_succ, i64_w, i32_w]
           rfl
          refine last_ (i := 19) (N := none) #[J,J,J,J,J,J,J,J,J,J,J,J,J,J,J,J,J,J,J,J] rfl rfl (one_of HT_.out (by kernel_rfl)) (by decide) (fun K hK => ?_)
          have hs37 : w35.cell? ⟨gb148, 1, none⟩ = some (.int .i64 x149001_1) := (blk_cell BK148.out 1).trans rfl
          have hfs37 := blk_frozen BK148.out 1
          have hns37_0 := NB143_148.out
          have hns37_1 := NB144_148.out
          have hns37_2 := NB145_148.out
          have hns37_4 := NB154_148.out
          have hms37_0 := NB148_143.out
          have hms37_1 := NB148_144.out
          have hms37_2 := NB148_145.out
          have hms37_4 := NB148_154.out
          refine skip_ (w1 := ?_) (by rfl) rfl ?_ ?_
          rotate_left
          ·
           go_simp
           rfl
          refine hK.out _ _ ?_
          clear hK K
          refine done_ (done_of HT_.out (by kernel_rfl)) ?_
          have p158 : 0 ≤ ((rd l0_1 x29_1) : Int) := of_decide_eq_true (by first | (with_reducible assumption) | assumption)
          have q158 : (rd l0_1 x29_1) < (l1.length : Int) := of_decide_eq_true (by first | (with_reducible assumption) | assumption)
          obtain ⟨ad158, e158, hx158_0, hx158_1, hx158_2, hx158_3⟩ := at_T37 HR1.out (rd l0_1 x29_1) p158 q158
          obtain rfl : ad156 = ad158 := (by injection e158)
          have hn158_0 : ad156.block ≠ gb148 := Nat.ne_of_lt (Nat.lt_of_lt_of_le (by have := World.block_lt_of_cell? _ _ hx158_0; first | rwa [add_block] at this | exact this) GW148.out)
          have hn158_1 : ad156.block ≠ gb148 := Nat.ne_of_lt (Nat.lt_of_lt_of_le (by have := World.block_lt_of_cell? _ _ hx158_0; first | rwa [add_block] at this | exact this) GW148.out)
          replace hx158_0 := (HB.out.cell (World.block_lt_of_cell? w _ hx158_0)).trans hx158_0
          replace hx158_1 := (HB.out.cell (World.block_lt_of_cell? w _ hx158_1)).trans hx158_1
          replace hx158_2 := (HB.out.cell (World.block_lt_of_cell? w _ hx158_2)).trans hx158_2
          replace hx158_3 := (HB.out.cell (World.block_lt_of_cell? w _ hx158_3)).trans hx158_3
          replace hx158_0 := (cell_far (p := ⟨gb148, 0, none⟩) (by first | exact far_add hn158_0 | exact hn158_0) (.int .i64 ji29)).trans hx158_0
          replace hx158_1 := (cell_far (p := ⟨gb148, 0, none⟩) (by first | exact far_add hn158_0 | exact hn158_0) (.int .i64 ji29)).trans hx158_1
          replace hx158_2 := (cell_far (p := ⟨gb148, 0, none⟩) (by first | exact far_add hn158_0 | exact hn158_0) (.int .i64 ji29)).trans hx158_2
          replace hx158_3 := (cell_far (p := ⟨gb148, 0, none⟩) (by first | exact far_add hn158_0 | exact hn158_0) (.int .i64 ji29)).trans hx158_3
          replace hx158_0 := (cell_far (p := ⟨gb148, 1, none⟩) (by first | exact far_add hn158_1 | exact hn158_1) (.int .i64 ji30)).trans hx158_0
          replace hx158_1 := (cell_far (p := ⟨gb148, 1, none⟩) (by first | exact far_add hn158_1 | exact hn158_1) (.int .i64 ji30)).trans hx158_1
          replace hx158_2 := (cell_far (p := ⟨gb148, 1, none⟩) (by first | exact far_add hn158_1 | exact hn158_1) (.int .i64 ji30)).trans hx158_2
          replace hx158_3 := (cell_far (p := ⟨gb148, 1, none⟩) (by first | exact far_add hn158_1 | exact hn158_1) (.int .i64 ji30)).trans hx158_3
          clear hn158_0
          clear hn158_1
          replace p158 := eq_true p158
          replace q158 := eq_true q158
          try go_wp2_with (first | ((with_reducible refine gate_builtin (b := .append) (xs := #[.tmp 51, .tmp 57]) rfl ?_); at_builtin; refine Kd.R_append (Kd.int .i64) (w0 := w) w.heap.size rfl (.tmp 51) (.tmp 57) 38 3 (.int .i64 0) 8 rfl Try.underlying38 info3 rfl (by decide) (by omega) u10 x10_1 ((rd_T37 l1 (rd l0_1 x29_1)).f2) [.int .i64 ((rd_T37 l1 (rd l0_1 x29_1)).f2)] (fun _ => True) (fun _ => False) rfl (by first | (go_simp; done) | (go_simp; rfl)) ?aP (fun _ hk => hk.elim) ?aF ?aO ?aB ?aS ?aL ?_; (case aP => exact rfl); (case aB => exact (by repeat (first | (with_reducible first | exact HB.out | apply below_alloc | apply pw_below_drewN | apply below_drew1 | refine below_set ?_ GE143.out | refine below_set ?_ GE144.out | refine below_set ?_ GE145.out | refine below_set ?_ GE148.out | refine below_set ?_ GE154.out) | exact HB.out))); (case aF => exact (fun _ _ => trivial)); (case aO => exact (by (with_reducible repeat (first | apply Kd.R_alloc | apply Kd.R_drewN | apply Kd.R_drew)); exact Kd.R_mono (Kd.R_far (p := ⟨gb148, 1, none⟩) (Kd.R_far (p := ⟨gb148, 0, none⟩) (Kd.R_types HO_10.out BK148.out (by decide)) (fun _ hk => hk.2) (.int .i64 ji29)) (fun _ hk => hk.2) (.int .i64 ji30)) (fun _ hk => trivial))); (case aS => exact below_sizeA); (case aL => have := LMc31.out; omega); intro v160 w38 ho hb hg hat; rw [← Ny159.out] at ho; have n0_ := Aside0.mk (blk_grown (g := gb143) (o := .cells #[.int .i64 a0_0, .slice (some ad155) l0_1.length c0_1, .string a0_2, .int .i64 a0_3, .slice A0_4 l0_4.length c0_4, .int .i64 a0_5, .int .i64 a0_6, .int .i64 a0_7, .slice A0_8 l0_8.length c0_8, .slice A0_9 l0_9.length c0_9, .int .i64 a0_10, .int .i64 a0_11, .int .i64 a0_12, .slice A0_13 l0_13.length c0_13, .slice A0_14 l0_14.length c0_14, .slice A0_15 l0_15.length c0_15] 44 (0, 0)) (by (with_reducible repeat (first | refine blk_drewN ?_ _ | refine blk_drew ?_ | refine blk_alloc ?_ _)); refine blk_far ?_ NB143_148.out _; (with_reducible repeat (first | refine blk_drewN ?_ _ | refine blk_drew ?_ | refine blk_alloc ?_ _)); refine blk_far ?_ NB143_148.out _; (with_reducible repeat (first | refine blk_drewN ?_ _ | refine blk_drew ?_ | refine blk_alloc ?_ _)); exact BK143.out) hg (Kd.R_ne HO_10.out BK143.out (by decide))); have n1_ := Aside0.mk (blk_grown (g := gb144) (o := .cells #[.int .i64 a2_0, .int .i64 a2_1, .int .i64 a2_2, .int .i64 a2_3, .int .i64 a2_4, .int .i64 a2_5] 27 (0, 0)) (by (with_reducible repeat (first | refine blk_drewN ?_ _ | refine blk_drew ?_ | refine blk_alloc ?_ _)); refine blk_far ?_ NB144_148.out _; (with_reducible repeat (first | refine blk_drewN ?_ _ | refine blk_drew ?_ | refine blk_alloc ?_ _)); refine blk_far ?_ NB144_148.out _; (with_reducible repeat (first | refine blk_drewN ?_ _ | refine blk_drew ?_ | refine blk_alloc ?_ _)); exact BK144.out) hg (Kd.R_ne HO_10.out BK144.out (by decide))); have n2_ := Aside0.mk (blk_grown (g := gb145) (o := .cells #[.int .i64 0, .int .i64 0, .int .i64 0, .int .i64 0] 37 (0, 0)) (by (with_reducible repeat (first | refine blk_drewN ?_ _ | refine blk_drew ?_ | refine blk_alloc ?_ _)); refine blk_far ?_ NB145_148.out _; (with_reducible repeat (first | refine blk_drewN ?_ _ | refine blk_drew ?_ | refine blk_alloc ?_ _)); refine blk_far ?_ NB145_148.out _; (with_reducible repeat (first | refine blk_drewN ?_ _ | refine blk_drew ?_ | refine blk_alloc ?_ _)); exact BK145.out) hg (Kd.R_ne HO_10.out BK145.out (by decide))); have n3_ := Aside0.mk (blk_grown (g := gb148) (o := .cells #[.int .i64 ji29, .int .i64 ji30, .int .i64 0, .int .i64 x149003_1] 37 (0, 0)) (by (with_reducible repeat (first | refine blk_drewN ?_ _ | refine blk_drew ?_ | refine blk_alloc ?_ _)); refine blk_put (cs := #[.int .i64 ji29, .int .i64 x149001_1, .int .i64 0, .int .i64 x149003_1]) ?_ 1 _ rfl; (with_reducible repeat (first | refine blk_drewN ?_ _ | refine blk_drew ?_ | refine blk_alloc ?_ _)); refine blk_put (cs := #[.int .i64 x149000_1, .int .i64 x149001_1, .int .i64 0, .int .i64 x149003_1]) ?_ 0 _ rfl; (with_reducible repeat (first | refine blk_drewN ?_ _ | refine blk_drew ?_ | refine blk_alloc ?_ _)); exact BK148.out) hg (Kd.R_ne HO_10.out BK148.out (by decide))); have n4_ := Aside0.mk (blk_grown (g := gb154) (o := .cells #[.int .i64 t149, fnV t150, fnV t151, .bool true] 65 (0, 0)) (by (with_reducible repeat (first | refine blk_drewN ?_ _ | refine blk_drew ?_ | refine blk_alloc ?_ _)); refine blk_far ?_ NB154_148.out _; (with_reducible repeat (first | refine blk_drewN ?_ _ | refine blk_drew ?_ | refine blk_alloc ?_ _)); refine blk_far ?_ NB154_148.out _; (with_reducible repeat (first | refine blk_drewN ?_ _ | refine blk_drew ?_ | refine blk_alloc ?_ _)); exact BK154.out) hg (Kd.R_ne HO_10.out BK154.out (by decide))); have n5_ := Aside0.mk (hb); have n6_ := Aside0.mk (ho); clear BK143; clear BK144; clear BK145; clear BK148; clear BK154; clear HB; clear HO_10; have BK143 := n0_; have BK144 := n1_; have BK145 := n2_; have BK148 := n3_; have BK154 := n4_; have HB := n5_; have HO161 := n6_; clear n0_ n1_ n2_ n3_ n4_ n5_ n6_; clear ho hb hg hat; have hnb39 := NB154_143.out; have hnc39 := NB143_154.out; have hnb40 := NB154_144.out; have hnc40 := NB144_154.out; have hnb41 := NB154_145.out; have hnc41 := NB145_154.out; have hnb42 := NB154_148.out; have hnc42 := NB148_154.out; obtain ⟨hcz43_0, hcz43_1, hcz43_2, hcz43_3, hfz43_0, hfz43_1, hfz43_2, hfz43_3⟩ := blk4 BK154.out))
          have n0_ := Aside0.mk (Kd.R_drew HO161.out)
          have n1_ := Aside0.mk (blk_drew BK143.out)
          have n2_ := Aside0.mk (blk_drew BK144.out)
          have n3_ := Aside0.mk (blk_drew BK145.out)
          have n4_ := Aside0.mk (blk_drew BK148.out)
          have n5_ := Aside0.mk (blk_drew BK154.out)
          have n6_ := Aside0.mk (below_drew1 HB.out)
          clear HO161
          clear BK143
          clear BK144
          clear BK145
          clear BK148
          clear BK154
          clear HB
          have HO161 := n0_
          have BK143 := n1_
          have BK144 := n2_
          have BK145 := n3_
          have BK148 := n4_
          have BK154 := n5_
          have HB := n6_
          clear n0_ n1_ n2_ n3_ n4_ n5_ n6_
          have p162 : 0 ≤ ((rd l0_1 x29_1) : Int) := of_decide_eq_true (by first | (with_reducible assumption) | assumption)
          have q162 : (rd l0_1 x29_1) < (l1.length : Int) := of_decide_eq_true (by first | (with_reducible assumption) | assumption)
          obtain ⟨ad162, e162, hx162_0, hx162_1, hx162_2, hx162_3⟩ := at_T37 HR1.out (rd l0_1 x29_1) p162 q162
          have hw162_3 := hx162_3
          have hw162_2 := hx162_2
          have hw162_1 := hx162_1
          have hw162_0 := hx162_0
          obtain rfl : ad156 = ad162 := (by injection e162)
          replace hx162_0 := (HB.out.cell (World.block_lt_of_cell? w _ hx162_0)).trans hx162_0
          replace hx162_1 := (HB.out.cell (World.block_lt_of_cell? w _ hx162_1)).trans hx162_1
          replace hx162_2 := (HB.out.cell (World.block_lt_of_cell? w _ hx162_2)).trans hx162_2
          replace hx162_3 := (HB.out.cell (World.block_lt_of_cell? w _ hx162_3)).trans hx162_3
          replace p162 := eq_true p162
          replace q162 := eq_true q162
          have p163 : 0 ≤ ((rd l0_1 x29_1) : Int) := of_decide_eq_true (by first | (with_reducible assumption) | assumption)
          have q163 : (rd l0_1 x29_1) < (l1.length : Int) := of_decide_eq_true (by first | (with_reducible assumption) | assumption)
          obtain ⟨ad163, e163, hx163_0, hx163_1, hx163_2, hx163_3⟩ := at_T37 HR1.out (rd l0_1 x29_1) p163 q163
          have hw163_3 := hx163_3
          have hw163_2 := hx163_2
          have hw163_1 := hx163_1
          have hw163_0 := hx163_0
          obtain rfl : ad156 = ad163 := (by injection e163)
          replace hx163_0 := (HB.out.cell (World.block_lt_of_cell? w _ hx163_0)).trans hx163_0
          replace hx163_1 := (HB.out.cell (World.block_lt_of_cell? w _ hx163_1)).trans hx163_1
          replace hx163_2 := (HB.out.cell (World.block_lt_of_cell? w _ hx163_2)).trans hx163_2
          replace hx163_3 := (HB.out.cell (World.block_lt_of_cell? w _ hx163_3)).trans hx163_3
          replace p163 := eq_true p163
          replace q163 := eq_true q163
          refine start_ (n := 21) (S := fun w' => w'.cell? ⟨gb148, 0, none⟩ = some (.int .i64 ji29) ∧ w'.cell? ⟨gb148, 1, none⟩ = some (.int .i64 ji30) ∧ w'.cell? ⟨gb148, 2, none⟩ = some (.int .i64 0) ∧ w'.cell? ⟨gb148, 3, none⟩ = some (.int .i64 x149003_1) ∧ w'.cell? ⟨gb144, 0, none⟩ = some (.int .i64 a2_0) ∧ w'.cell? ⟨gb144, 1, none⟩ = some (.int .i64 a2_1) ∧ w'.cell? ⟨gb144, 2, none⟩ = some (.int .i64 a2_2) ∧ w'.cell? ⟨gb144, 3, none⟩ = some (.int .i64 a2_3) ∧ w'.cell? ⟨gb144, 4, none⟩ = some (.int .i64 a2_4) ∧ w'.cell? ⟨gb144, 5, none⟩ = some (.int .i64 a2_5) ∧ w'.cell? (ad156.add (((rd l0_1 x29_1)).toNat * 4)) = some (.int .i64 ((rd_T37 l1 (rd l0_1 x29_1)).f0)) ∧ w'.cell? ⟨(ad156.add (((rd l0_1 x29_1)).toNat * 4)).block, (ad156.add (((rd l0_1 x29_1)).toNat * 4)).off + 1, none⟩ = some (.int .i64 ((rd_T37 l1 (rd l0_1 x29_1)).f1)) ∧ w'.cell? ⟨(ad156.add (((rd l0_1 x29_1)).toNat * 4)).block, (ad156.add (((rd l0_1 x29_1)).toNat * 4)).off + 2, none⟩ = some (.int .i64 ((rd_T37 l1 (rd l0_1 x29_1)).f2)) ∧ w'.cell? ⟨(ad156.add (((rd l0_1 x29_1)).toNat * 4)).block, (ad156.add (((rd l0_1 x29_1)).toNat * 4)).off + 3, none⟩ = some (.int .i64 ((rd_T37 l1 (rd l0_1 x29_1)).f3)) ∧ w'.cell? (ad156.add (((rd l0_1 x29_1)).toNat * 4)) = some (.int .i64 ((rd_T37 l1 (rd l0_1 x29_1)).f0)) ∧ w'.cell? ⟨(ad156.add (((rd l0_1 x29_1)).toNat * 4)).block, (ad156.add (((rd l0_1 x29_1)).toNat * 4)).off + 1, none⟩ = some (.int .i64 ((rd_T37 l1 (rd l0_1 x29_1)).f1)) ∧ w'.cell? ⟨(ad156.add (((rd l0_1 x29_1)).toNat * 4)).block, (ad156.add (((rd l0_1 x29_1)).toNat * 4)).off + 2, none⟩ = some (.int .i64 ((rd_T37 l1 (rd l0_1 x29_1)).f2)) ∧ w'.cell? ⟨(ad156.add (((rd l0_1 x29_1)).toNat * 4)).block, (ad156.add (((rd l0_1 x29_1)).toNat * 4)).off + 3, none⟩ = some (.int .i64 ((rd_T37 l1 (rd l0_1 x29_1)).f3))) (ds := [20]) #[O,O,O,O,O,O,O,O,O,O,O,O,O,O,O,O,O,O,O,O,O] (by kernel_rfl) rfl rfl ⟨(blk_cell BK148.out 0).trans rfl, (blk_cell BK148.out 1).trans rfl, (blk_cell BK148.out 2).trans rfl, (blk_cell BK148.out 3).trans rfl, (blk_cell BK144.out 0).trans rfl, (blk_cell BK144.out 1).trans rfl, (blk_cell BK144.out 2).trans rfl, (blk_cell BK144.out 3).trans rfl, (blk_cell BK144.out 4).trans rfl, (blk_cell BK144.out 5).trans rfl, ((HB.out.cell (World.block_lt_of_cell? w _ hw162_0)).trans hw162_0), ((HB.out.cell (World.block_lt_of_cell? w _ hw162_1)).trans hw162_1), ((HB.out.cell (World.block_lt_of_cell? w _ hw162_2)).trans hw162_2), ((HB.out.cell (World.block_lt_of_cell? w _ hw162_3)).trans hw162_3), ((HB.out.cell (World.block_lt_of_cell? w _ hw163_0)).trans hw163_0), ((HB.out.cell (World.block_lt_of_cell? w _ hw163_1)).trans hw163_1), ((HB.out.cell (World.block_lt_of_cell? w _ hw163_2)).trans hw163_2), ((HB.out.cell (World.block_lt_of_cell? w _ hw163_3)).trans hw163_3)⟩ (fun hHeld => ?_); refine with_tabW bounds_bound.tab11 bounds_bound.bits11 (fun HT_ HW_ => ?_)
          generalize w38.drew = w44 at HO161 BK143 BK144 BK145 BK148 BK154 HB hx162_0 hx162_1 hx162_2 hx162_3 hx163_0 hx163_1 hx163_2 hx163_3 hHeld ⊢
          refine pure_ (i := 0) (N := some 61) (v := ?_) (a' := ?_) #[J,O,O,O,O,O,O,O,O,O,O,O,O,O,O,O,O,O,O,O,O] rfl rfl (any_of HT_.out (by kernel_rfl)) (fun _ _ _ h => h) (Or.inl ⟨by rfl, ?_⟩) ?_ ?_
          rotate_left
          ·
           intro w'
           go_simp
           with_reducible rfl
          rotate_left
          ·
           simp only [Act.put, List.setIfInBounds_toArray, List.set_cons_zero, List.set_cons_succ, i64_w, i32_w]
           rfl
          refine pure_ (i := 2) (N := some 63) (v := ?_) (a' := ?_) #[J,O,J,O,O,O,O,O,O,O,O,O,O,O,O,O,O,O,O,O,O] rfl rfl (any_of HT_.out (by kernel_rfl)) (fun _ _ _ h => h) (Or.inl ⟨by rfl, ?_⟩) ?_ ?_
          rotate_left
          ·
           intro w'
           go_simp
           with_reducible rfl
          rotate_left
          ·
           simp only [Act.put, List.setIfInBounds_toArray, List.set_cons_zero, List.set_cons_succ, i64_w, i32_w]
           rfl
          refine pure_ (i := 3) (N := some 64) (v := ?_) (a' := ?_) #[J,O,J,J,O,O,O,O,O,O,O,O,O,O,O,O,O,O,O,O,O] rfl rfl (any_of HT_.out (by kernel_rfl)) (fun _ _ _ h => h) (Or.inl ⟨by rfl, ?_⟩) ?_ ?_
          rotate_left
          ·
           intro w'
           go_simp
           with_reducible rfl
          rotate_left
          ·
           simp only [Act.put, List.setIfInBounds_toArray, List.set_cons_zero, List.set_cons_succ, i64_w, i32_w]
           rfl
          refine pure_ (i := 4) (N := some 65) (v := ?_) (a' := ?_) #[J,O,J,J,J,O,O,O,O,O,O,O,O,O,O,O,O,O,O,O,O] rfl rfl (any_of HT_.out (by kernel_rfl)) (fun _ _ _ h => h) (Or.inl ⟨by rfl, ?_⟩) ?_ ?_
          rotate_left
          ·
           intro w'
           go_simp
           with_reducible rfl
          rotate_left
          ·
           simp only [Act.put, List.setIfInBounds_toArray, List.set_cons_zero, List.set_cons_succ, i64_w, i32_w]
           rfl
          refine pure_ (i := 5) (N := some 66) (v := ?_) (a' := ?_) #[J,O,J,J,J,J,O,O,O,O,O,O,O,O,O,O,O,O,O,O,O] rfl rfl (any_of HT_.out (by kernel_rfl)) (fun _ _ _ h => h) (Or.inl ⟨by rfl, ?_⟩) ?_ ?_
          rotate_left
          ·
           intro w'
           go_simp
           with_reducible rfl
          rotate_left
          ·
           simp only [Act.put, List.setIfInBounds_toArray, List.set_cons_zero, List.set_cons_succ, i64_w, i32_w]
           rfl
          refine pure_ (i := 7) (N := some 68) (v := ?_) (a' := ?_) #[J,O,J,J,J,J,O,J,O,O,O,O,O,O,O,O,O,O,O,O,O] rfl rfl (any_of HT_.out (by kernel_rfl)) (fun _ _ _ h => h) (Or.inl ⟨by rfl, ?_⟩) ?_ ?_
          rotate_left
          ·
           intro w'
           go_simp
           with_reducible rfl
          rotate_left
          ·
           simp only [Act.put, List.setIfInBounds_toArray, List.set_cons_zero, List.set_cons_succ, i64_w, i32_w]
           rfl
          refine pure_ (i := 9) (N := some 70) (v := ?_) (a' := ?_) #[J,O,J,J,J,J,O,J,O,J,O,O,O,O,O,O,O,O,O,O,O] rfl rfl (any_of HT_.out (by kernel_rfl)) (fun _ _ _ h => h) (Or.inl ⟨by rfl, ?_⟩) ?_ ?_
          rotate_left
          ·
           intro w'
           go_simp
           with_reducible rfl
          rotate_left
          ·
           simp only [Act.put, List.setIfInBounds_toArray, List.set_cons_zero, List.set_cons_succ, i64_w, i32_w]
           rfl
          refine pure_ (i := 10) (N := some 71) (v := ?_) (a' := ?_) #[J,O,J,J,J,J,O,J,O,J,J,O,O,O,O,O,O,O,O,O,O] rfl rfl (any_of HT_.out (by kernel_rfl)) (fun _ _ _ h => h) (Or.inl ⟨by rfl, ?_⟩) ?_ ?_
          rotate_left
          ·
           intro w'
           go_simp
           with_reducible rfl
          rotate_left
          ·
           simp only [Act.put, List.setIfInBounds_toArray, List.set_cons_zero, List.set_cons_succ, i64_w, i32_w]
           rfl
          refine pure_ (i := 11) (N := some 72) (v := ?_) (a' := ?_) #[J,O,J,J,J,J,O,J,O,J,J,J,O,O,O,O,O,O,O,O,O] rfl rfl (any_of HT_.out (by kernel_rfl)) (fun _ _ _ h => h) (Or.inl ⟨by rfl, ?_⟩) ?_ ?_
          rotate_left
          ·
           intro w'
           go_simp
           with_reducible rfl
          rotate_left
          ·
           simp only [Act.put, List.setIfInBounds_toArray, List.set_cons_zero, List.set_cons_succ, i64_w, i32_w]
           rfl
          refine pure_ (i := 12) (N := some 73) (v := ?_) (a' := ?_) #[J,O,J,J,J,J,O,J,O,J,J,J,J,O,O,O,O,O,O,O,O] rfl rfl (any_of HT_.out (by kernel_rfl)) (fun _ _ _ h => h) (Or.inl ⟨by rfl, ?_⟩) ?_ ?_
          rotate_left
          ·
           intro w'
           go_simp
           with_reducible rfl
          rotate_left
          ·
           simp only [Act.put, List.setIfInBounds_toArray, List.set_cons_zero, List.set_cons_succ, i64_w, i32_w]
           rfl
          refine pure_ (i := 15) (N := some 76) (v := ?_) (a' := ?_) #[J,O,J,J,J,J,O,J,O,J,J,J,J,O,O,J,O,O,O,O,O] rfl rfl (any_of HT_.out (by kernel_rfl)) (fun _ _ _ h => h) (Or.inl ⟨by rfl, ?_⟩) ?_ ?_
          rotate_left
          ·
           intro w'
           go_simp
           with_reducible rfl
          rotate_left
          ·
           simp only [Act.put, List.setIfInBounds_toArray, List.set_cons_zero, List.set_cons_succ, i64_w, i32_w]
           rfl
          refine take_ (i := 1) (N := some 62) (v := ?_) (a' := ?_) #[J,J,J,J,J,J,O,J,O,J,J,J,J,O,O,J,O,O,O,O,O] rfl rfl (take_ofW HT_.out HW_.out (by kernel_rfl)) (fun _ _ _ h => h) (Or.inl ⟨by rfl, ?_⟩) hHeld ?_ ?_
          rotate_left
          ·
           rintro w' ⟨s0, s1, s2, s3, s4, s5, s6, s7, s8, s9, s10, s11, s12, s13, s14, s15, s16, s17⟩
           go_simp
           with_reducible rfl
          rotate_left
          ·
           simp only [Act.put, List.setIfInBounds_toArray, List.set_cons_zero, List.set_cons_succ, i64_w, i32_w]
           rfl
          refine take_ (i := 6) (N := some 67) (v := ?_) (a' := ?_) #[J,J,J,J,J,J,J,J,O,J,J,J,J,O,O,J,O,O,O,O,O] rfl rfl (take_ofW HT_.out HW_.out (by kernel_rfl)) (fun _ _ _ h => h) (Or.inl ⟨by rfl, ?_⟩) hHeld ?_ ?_
          rotate_left
          ·
           rintro w' ⟨s0, s1, s2, s3, s4, s5, s6, s7, s8, s9, s10, s11, s12, s13, s14, s15, s16, s17⟩
           go_simp
           with_reducible rfl
          rotate_left
          ·
           simp only [Act.put, List.setIfInBounds_toArray, List.set_cons_zero, List.set_cons_succ, i64_w, i32_w]
           rfl
          refine take_ (i := 8) (N := some 69) (v := ?_) (a' := ?_) #[J,J,J,J,J,J,J,J,J,J,J,J,J,O,O,J,O,O,O,O,O] rfl rfl (take_ofW HT_.out HW_.out (by kernel_rfl)) (fun _ _ _ h => h) (Or.inl ⟨by rfl, ?_⟩) hHeld ?_ ?_
          rotate_left
          ·
           rintro w' ⟨s0, s1, s2, s3, s4, s5, s6, s7, s8, s9, s10, s11, s12, s13, s14, s15, s16, s17⟩
           go_simp
           with_reducible rfl
          rotate_left
          ·
           simp only [Act.put, List.setIfInBounds_toArray, List.set_cons_zero, List.set_cons_succ, i64_w, i32_w]
           rfl
          refine take_ (i := 13) (N := some 74) (v := ?_) (a' := ?_) #[J,J,J,J,J,J,J,J,J,J,J,J,J,J,O,J,O,O,O,O,O] rfl rfl (take_ofW HT_.out HW_.out (by kernel_rfl)) (fun _ _ _ h => h) (Or.inl ⟨by rfl, ?_⟩) hHeld ?_ ?_
          rotate_left
          ·
           rintro w' ⟨s0, s1, s2, s3, s4, s5, s6, s7, s8, s9, s10, s11, s12, s13, s14, s15, s16, s17⟩
           go_simp
           with_reducible rfl
          rotate_left
          ·
           simp only [Act.put, List.setIfInBounds_toArray, List.set_cons_zero, List.set_cons_succ, i64_w, i32_w]
           rfl
          refine pure_ (i := 14) (N := some 75) (v := ?_) (a' := ?_) #[J,J,J,J,J,J,J,J,J,J,J,J,J,J,J,J,O,O,O,O,O] rfl rfl (any_of HT_.out (by kernel_rfl)) (fun _ _ _ h => h) (Or.inl ⟨by rfl, ?_⟩) ?_ ?_
          rotate_left
          ·
           intro w'
           go_simp
           with_reducible rfl
          rotate_left
          ·
           simp only [Act.put, List.setIfInBounds_toArray, List.set_cons_zero, List.set_cons_succ, i64_w, i32_w]
           rfl
          refine pure_ (i := 16) (N := some 77) (v := ?_) (a' := ?_) #[J,J,J,J,J,J,J,J,J,J,J,J,J,J,J,J,J,O,O,O,O] rfl rfl (any_of HT_.out (by kernel_rfl)) (fun _ _ _ h => h) (Or.inl ⟨by rfl, ?_⟩) ?_ ?_
          rotate_left
          ·
           intro w'
           go_simp
           with_reducible rfl
          rotate_left
          ·
           simp only [Act.put, List.setIfInBounds_toArray, List.set_cons_zero, List.set_cons_succ, i64_w, i32_w]
           rfl
          refine one_ (i := 17) (N := some 78) #[J,J,J,J,J,J,J,J,J,J,J,J,J,J,J,J,J,J,O,O,O] rfl rfl (one_of HT_.out (by kernel_rfl)) (by decide) (fun K hK => ?_)
          refine goes_ Try.func35 (by kernel_rfl) rfl #[.int .i64 ((rd_T37 l1 (rd l0_1 x29_1)).f2), .int .i64 (wrap64 ((wrap64 (a2_5 + ((rd_T37 l1 (rd l0_1 x29_1)).f1))) + t146))] (by rfl) rfl rfl (by (try simp only [List.map_toArray, List.map_cons, List.map_nil]); first | done | rfl | (simp only [List.length_drop, List.length_take]; rfl)) ?_
          with_reducible refine (bounds_times.calls ((rd_T37 l1 (rd l0_1 x29_1)).f2) (wrap64 ((wrap64 (a2_5 + ((rd_T37 l1 (rd l0_1 x29_1)).f1))) + t146)) t164 _ A33.out).mono ?_
          rintro e w' ⟨rfl, ⟨nd, rfl⟩⟩
          refine ⟨_, rfl, ?_⟩
          refine hK.out _ _ ⟨(blk_cell BK148.out 0).trans rfl, (blk_cell BK148.out 1).trans rfl, (blk_cell BK148.out 2).trans rfl, (blk_cell BK148.out 3).trans rfl, (blk_cell BK144.out 0).trans rfl, (blk_cell BK144.out 1).trans rfl, (blk_cell BK144.out 2).trans rfl, (blk_cell BK144.out 3).trans rfl, (blk_cell BK144.out 4).trans rfl, (blk_cell BK144.out 5).trans rfl, ((HB.out.cell (World.block_lt_of_cell? w _ hw162_0)).trans hw162_0), ((HB.out.cell (World.block_lt_of_cell? w _ hw162_1)).trans hw162_1), ((HB.out.cell (World.block_lt_of_cell? w _ hw162_2)).trans hw162_2), ((HB.out.cell (World.block_lt_of_cell? w _ hw162_3)).trans hw162_3), ((HB.out.cell (World.block_lt_of_cell? w _ hw163_0)).trans hw163_0), ((HB.out.cell (World.block_lt_of_cell? w _ hw163_1)).trans hw163_1), ((HB.out.cell (World.block_lt_of_cell? w _ hw163_2)).trans hw163_2), ((HB.out.cell (World.block_lt_of_cell? w _ hw163_3)).trans hw163_3)⟩ (fun hHeld => ?_)
          clear hK K
          refine norm_ (a' := ?_) ?_ ?_
          rotate_left
          ·
           show Act.put _ (some 78) _ = _
           simp only [Act.put, List.setIfInBounds_toArray, List.set_cons_zero, List.set_cons_succ, i64_w, i32_w]
           rfl
          refine one_ (i := 18) (N := some 79) #[J,J,J,J,J,J,J,J,J,J,J,J,J,J,J,J,J,J,J,O,O] rfl rfl (one_of HT_.out (by kernel_rfl)) (by decide) (fun K hK => ?_)
          refine goes_ Try.func32 (by kernel_rfl) rfl #[.int .i64 x149003_1, .int .i64 t164] (by rfl) rfl rfl (by (try simp only [List.map_toArray, List.map_cons, List.map_nil]); first | done | rfl | (simp only [List.length_drop, List.length_take]; rfl)) ?_
          with_reducible refine (bounds_plus.calls x149003_1 t164 t165 _ A34.out).mono ?_
          rintro e w45 ⟨rfl, hb⟩
          refine ⟨_, rfl, ?_⟩
          have n0_ := Aside0.mk (Kd.R_below (by (with_reducible repeat (first | apply Kd.R_alloc | apply Kd.R_drewN | apply Kd.R_drew)); exact HO161.out) hb)
          have n1_ := Aside0.mk (blk_keepA BK143.out hb)
          have n2_ := Aside0.mk (blk_keepA BK144.out hb)
          have n3_ := Aside0.mk (blk_keepA BK145.out hb)
          have n4_ := Aside0.mk (blk_keepA BK148.out hb)
          have n5_ := Aside0.mk (blk_keepA BK154.out hb)
          have n6_ := Aside0.mk (below_stepA hb)
          clear HO161
          clear BK143
          clear BK144
          clear BK145
          clear BK148
          clear BK154
          clear HB
          have HO161 := n0_
          have BK143 := n1_
          have BK144 := n2_
          have BK145 := n3_
          have BK148 := n4_
          have BK154 := n5_
          have HB := n6_
          clear n0_ n1_ n2_ n3_ n4_ n5_ n6_
          (try clear hb)
          (try clear hb2)
          (try clear hk)
          (try clear hi)
          refine hK.out _ _ ⟨(blk_cell BK148.out 0).trans rfl, (blk_cell BK148.out 1).trans rfl, (blk_cell BK148.out 2).trans rfl, (blk_cell BK148.out 3).trans rfl, (blk_cell BK144.out 0).trans rfl, (blk_cell BK144.out 1).trans rfl, (blk_cell BK144.out 2).trans rfl, (blk_cell BK144.out 3).trans rfl, (blk_cell BK144.out 4).trans rfl, (blk_cell BK144.out 5).trans rfl, ((HB.out.cell (World.block_lt_of_cell? w _ hw162_0)).trans hw162_0), ((HB.out.cell (World.block_lt_of_cell? w _ hw162_1)).trans hw162_1), ((HB.out.cell (World.block_lt_of_cell? w _ hw162_2)).trans hw162_2), ((HB.out.cell (World.block_lt_of_cell? w _ hw162_3)).trans hw162_3), ((HB.out.cell (World.block_lt_of_cell? w _ hw163_0)).trans hw163_0), ((HB.out.cell (World.block_lt_of_cell? w _ hw163_1)).trans hw163_1), ((HB.out.cell (World.block_lt_of_cell? w _ hw163_2)).trans hw163_2), ((HB.out.cell (World.block_lt_of_cell? w _ hw163_3)).trans hw163_3)⟩ (fun hHeld => ?_)
          clear hK K
          refine norm_ (a' := ?_) ?_ ?_
          rotate_left
          ·
           show Act.put _ (some 79) _ = _
           simp only [Act.put, List.setIfInBounds_toArray, List.set_cons_zero, List.set_cons_succ, i64_w, i32_w]
           rfl
          refine pure_ (i := 19) (N := some 80) (v := ?_) (a' := ?_) #[J,J,J,J,J,J,J,J,J,J,J,J,J,J,J,J,J,J,J,J,O] rfl rfl (any_of HT_.out (by kernel_rfl)) (fun _ _ _ h => h) (Or.inl ⟨by rfl, ?_⟩) ?_ ?_
          rotate_left
          ·
           intro w'
           go_simp
           with_reducible rfl
          rotate_left
          ·
           simp only [Act.put, List.setIfInBounds_toArray, List.set_cons_zero, List.set_cons_succ, i64_w, i32_w]
           rfl
          refine last_ (i := 20) (N := none) #[J,J,J,J,J,J,J,J,J,J,J,J,J,J,J,J,J,J,J,J,J] rfl rfl (one_of HT_.out (by kernel_rfl)) (by decide) (fun K hK => ?_)
          have hs46 : w45.cell? ⟨gb148, 3, none⟩ = some (.int .i64 x149003_1) := (blk_cell BK148.out 3).trans rfl
          have hfs46 := blk_frozen BK148.out 3
          have hns46_0 := NB143_148.out
          have hns46_1 := NB144_148.out
          have hns46_2 := NB145_148.out
          have hns46_4 := NB154_148.out
          have hms46_0 := NB148_143.out
          have hms46_1 := NB148_144.out
          have hms46_2 := NB148_145.out
          have hms46_4 := NB148_154.out
          refine skip_ (w1 := ?_) (by rfl) rfl ?_ ?_
          rotate_left
          ·
           go_simp
           rfl
          refine hK.out _ _ ?_
          clear hK K
          refine done_ (done_of HT_.out (by kernel_rfl)) ?_
          try go_wp2
          go_roundg k1
          case measure => have := HK1.out; omega
          case rel => exact ⟨(y159), (wrap64 (x29_1 + 1)), (ji29), (ji30), (t165), (by first | rfl | (simp; done) | (simp [*]; done)), H', ⟨by have := HK1.out; omega⟩, ⟨by (with_reducible repeat (first | apply Kd.R_alloc | apply Kd.R_drewN | apply Kd.R_drew)); exact Kd.R_mono (Kd.R_far (p := ⟨gb148, 3, none⟩) (Kd.R_types HO161.out BK148.out (by decide)) (fun _ hk => hk.2) (.int .i64 t165)) (fun _ hk => trivial)⟩, ⟨by (with_reducible repeat (first | refine blk_drewN ?_ _ | refine blk_drew ?_ | refine blk_alloc ?_ _)); refine blk_far ?_ NB143_148.out _; (with_reducible repeat (first | refine blk_drewN ?_ _ | refine blk_drew ?_ | refine blk_alloc ?_ _)); exact BK143.out⟩, ⟨by (with_reducible repeat (first | refine blk_drewN ?_ _ | refine blk_drew ?_ | refine blk_alloc ?_ _)); refine blk_far ?_ NB144_148.out _; (with_reducible repeat (first | refine blk_drewN ?_ _ | refine blk_drew ?_ | refine blk_alloc ?_ _)); exact BK144.out⟩, ⟨by (with_reducible repeat (first | refine blk_drewN ?_ _ | refine blk_drew ?_ | refine blk_alloc ?_ _)); refine blk_far ?_ NB145_148.out _; (with_reducible repeat (first | refine blk_drewN ?_ _ | refine blk_drew ?_ | refine blk_alloc ?_ _)); exact BK145.out⟩, ⟨by (with_reducible repeat (first | refine blk_drewN ?_ _ | refine blk_drew ?_ | refine blk_alloc ?_ _)); refine blk_put (cs := #[.int .i64 ji29, .int .i64 ji30, .int .i64 0, .int .i64 x149003_1]) ?_ 3 _ rfl; (with_reducible repeat (first | refine blk_drewN ?_ _ | refine blk_drew ?_ | refine blk_alloc ?_ _)); exact BK148.out⟩, ⟨by (with_reducible repeat (first | refine blk_drewN ?_ _ | refine blk_drew ?_ | refine blk_alloc ?_ _)); refine blk_far ?_ NB154_148.out _; (with_reducible repeat (first | refine blk_drewN ?_ _ | refine blk_drew ?_ | refine blk_alloc ?_ _)); exact BK154.out⟩, ⟨by repeat (first | (with_reducible first | exact HB.out | apply below_alloc | apply pw_below_drewN | apply below_drew1 | refine below_set ?_ GE143.out | refine below_set ?_ GE144.out | refine below_set ?_ GE145.out | refine below_set ?_ GE148.out | refine below_set ?_ GE154.out) | exact HB.out)⟩⟩
         ·
          replace c32 := Bool.eq_false_iff.mpr c32
          subst c32
          have H1 : (bounds_bound.l0 k1 l1 t146 t147 y159 l0_1 (l0_1.length : Int) (wrap64 (x29_1 + 1)) a0_0 l0_1 a0_2 a0_3 l0_4 a0_5 a0_6 a0_7 l0_8 l0_9 a0_10 a0_11 a0_12 l0_13 l0_14 l0_15 a2_0 a2_1 a2_2 a2_3 a2_4 a2_5 ji29 ji30 0 x149003_1 t149 t150 t151 false) = some (r1, r2, r3, r4) := by rw [if_neg (show ¬ (false = true) by decide)] at H; exact H
          clear H
          have H := H1
          clear H1
          have H' := Aside0.mk H
          clear H
          have p155 : 0 ≤ (x29_1 : Int) := of_decide_eq_true (by first | (with_reducible assumption) | assumption)
          have q155 : x29_1 < (l0_1.length : Int) := of_decide_eq_true (by first | (with_reducible assumption) | assumption)
          obtain ⟨ad155, e155, hx155_0⟩ := Kd.at_int HR0_1.out x29_1 p155 q155
          cases e155
          replace hx155_0 := (HB.out.cell (World.block_lt_of_cell? w _ hx155_0)).trans hx155_0
          replace p155 := eq_true p155
          replace q155 := eq_true q155
          try go_wp2
          have n0_ := Aside0.mk (Kd.R_drew HO_10.out)
          have n1_ := Aside0.mk (blk_drew BK143.out)
          have n2_ := Aside0.mk (blk_drew BK144.out)
          have n3_ := Aside0.mk (blk_drew BK145.out)
          have n4_ := Aside0.mk (blk_drew BK148.out)
          have n5_ := Aside0.mk (blk_drew BK154.out)
          have n6_ := Aside0.mk (below_drew1 HB.out)
          clear HO_10
          clear BK143
          clear BK144
          clear BK145
          clear BK148
          clear BK154
          clear HB
          have HO_10 := n0_
          have BK143 := n1_
          have BK144 := n2_
          have BK145 := n3_
          have BK148 := n4_
          have BK154 := n5_
          have HB := n6_
          clear n0_ n1_ n2_ n3_ n4_ n5_ n6_
          have p156 : 0 ≤ ((rd l0_1 x29_1) : Int) := of_decide_eq_true (by first | (with_reducible assumption) | assumption)
          have q156 : (rd l0_1 x29_1) < (l1.length : Int) := of_decide_eq_true (by first | (with_reducible assumption) | assumption)
          obtain ⟨ad156, e156, hx156_0, hx156_1, hx156_2, hx156_3⟩ := at_T37 HR1.out (rd l0_1 x29_1) p156 q156
          have hw156_3 := hx156_3
          have hw156_2 := hx156_2
          have hw156_1 := hx156_1
          have hw156_0 := hx156_0
          cases e156
          replace hx156_0 := (HB.out.cell (World.block_lt_of_cell? w _ hx156_0)).trans hx156_0
          replace hx156_1 := (HB.out.cell (World.block_lt_of_cell? w _ hx156_1)).trans hx156_1
          replace hx156_2 := (HB.out.cell (World.block_lt_of_cell? w _ hx156_2)).trans hx156_2
          replace hx156_3 := (HB.out.cell (World.block_lt_of_cell? w _ hx156_3)).trans hx156_3
          replace p156 := eq_true p156
          replace q156 := eq_true q156
          have p157 : 0 ≤ ((rd l0_1 x29_1) : Int) := of_decide_eq_true (by first | (with_reducible assumption) | assumption)
          have q157 : (rd l0_1 x29_1) < (l1.length : Int) := of_decide_eq_true (by first | (with_reducible assumption) | assumption)
          obtain ⟨ad157, e157, hx157_0, hx157_1, hx157_2, hx157_3⟩ := at_T37 HR1.out (rd l0_1 x29_1) p157 q157
          have hw157_3 := hx157_3
          have hw157_2 := hx157_2
          have hw157_1 := hx157_1
          have hw157_0 := hx157_0
          obtain rfl : ad156 = ad157 := (by injection e157)
          replace hx157_0 := (HB.out.cell (World.block_lt_of_cell? w _ hx157_0)).trans hx157_0
          replace hx157_1 := (HB.out.cell (World.block_lt_of_cell? w _ hx157_1)).trans hx157_1
          replace hx157_2 := (HB.out.cell (World.block_lt_of_cell? w _ hx157_2)).trans hx157_2
          replace hx157_3 := (HB.out.cell (World.block_lt_of_cell? w _ hx157_3)).trans hx157_3
          replace p157 := eq_true p157
          replace q157 := eq_true q157
          refine start_ (n := 20) (S := fun w' => w'.cell? ⟨gb148, 0, none⟩ = some (.int .i64 x149000_1) ∧ w'.cell? ⟨gb148, 1, none⟩ = some (.int .i64 x149001_1) ∧ w'.cell? ⟨gb148, 2, none⟩ = some (.int .i64 0) ∧ w'.cell? ⟨gb148, 3, none⟩ = some (.int .i64 x149003_1) ∧ w'.cell? (ad156.add (((rd l0_1 x29_1)).toNat * 4)) = some (.int .i64 ((rd_T37 l1 (rd l0_1 x29_1)).f0)) ∧ w'.cell? ⟨(ad156.add (((rd l0_1 x29_1)).toNat * 4)).block, (ad156.add (((rd l0_1 x29_1)).toNat * 4)).off + 1, none⟩ = some (.int .i64 ((rd_T37 l1 (rd l0_1 x29_1)).f1)) ∧ w'.cell? ⟨(ad156.add (((rd l0_1 x29_1)).toNat * 4)).block, (ad156.add (((rd l0_1 x29_1)).toNat * 4)).off + 2, none⟩ = some (.int .i64 ((rd_T37 l1 (rd l0_1 x29_1)).f2)) ∧ w'.cell? ⟨(ad156.add (((rd l0_1 x29_1)).toNat * 4)).block, (ad156.add (((rd l0_1 x29_1)).toNat * 4)).off + 3, none⟩ = some (.int .i64 ((rd_T37 l1 (rd l0_1 x29_1)).f3)) ∧ w'.cell? (ad156.add (((rd l0_1 x29_1)).toNat * 4)) = some (.int .i64 ((rd_T37 l1 (rd l0_1 x29_1)).f0)) ∧ w'.cell? ⟨(ad156.add (((rd l0_1 x29_1)).toNat * 4)).block, (ad156.add (((rd l0_1 x29_1)).toNat * 4)).off + 1, none⟩ = some (.int .i64 ((rd_T37 l1 (rd l0_1 x29_1)).f1)) ∧ w'.cell? ⟨(ad156.add (((rd l0_1 x29_1)).toNat * 4)).block, (ad156.add (((rd l0_1 x29_1)).toNat * 4)).off + 2, none⟩ = some (.int .i64 ((rd_T37 l1 (rd l0_1 x29_1)).f2)) ∧ w'.cell? ⟨(ad156.add (((rd l0_1 x29_1)).toNat * 4)).block, (ad156.add (((rd l0_1 x29_1)).toNat * 4)).off + 3, none⟩ = some (.int .i64 ((rd_T37 l1 (rd l0_1 x29_1)).f3))) (ds := [17, 19]) #[O,O,O,O,O,O,O,O,O,O,O,O,O,O,O,O,O,O,O,O] (by kernel_rfl) rfl rfl ⟨(blk_cell BK148.out 0).trans rfl, (blk_cell BK148.out 1).trans rfl, (blk_cell BK148.out 2).trans rfl, (blk_cell BK148.out 3).trans rfl, ((HB.out.cell (World.block_lt_of_cell? w _ hw156_0)).trans hw156_0), ((HB.out.cell (World.block_lt_of_cell? w _ hw156_1)).trans hw156_1), ((HB.out.cell (World.block_lt_of_cell? w _ hw156_2)).trans hw156_2), ((HB.out.cell (World.block_lt_of_cell? w _ hw156_3)).trans hw156_3), ((HB.out.cell (World.block_lt_of_cell? w _ hw157_0)).trans hw157_0), ((HB.out.cell (World.block_lt_of_cell? w _ hw157_1)).trans hw157_1), ((HB.out.cell (World.block_lt_of_cell? w _ hw157_2)).trans hw157_2), ((HB.out.cell (World.block_lt_of_cell? w _ hw157_3)).trans hw157_3)⟩ (fun hHeld => ?_); refine with_tabW bounds_bound.tab8 bounds_bound.bits8 (fun HT_ HW_ => ?_)
          generalize wr.drew = w47 at HO_10 BK143 BK144 BK145 BK148 BK154 HB hx156_0 hx156_1 hx156_2 hx156_3 hx157_0 hx157_1 hx157_2 hx157_3 hHeld ⊢
          refine pure_ (i := 0) (N := some 33) (v := ?_) (a' := ?_) #[J,O,O,O,O,O,O,O,O,O,O,O,O,O,O,O,O,O,O,O] rfl rfl (any_of HT_.out (by kernel_rfl)) (fun _ _ _ h => h) (Or.inl ⟨by rfl, ?_⟩) ?_ ?_
          rotate_left
          ·
           intro w'
           go_simp
           with_reducible rfl
          rotate_left
          ·
           simp only [Act.put, List.setIfInBounds_toArray, List.set_cons_zero, List.set_cons_succ, i64_w, i32_w]
           rfl
          refine pure_ (i := 2) (N := some 35) (v := ?_) (a' := ?_) #[J,O,J,O,O,O,O,O,O,O,O,O,O,O,O,O,O,O,O,O] rfl rfl (any_of HT_.out (by kernel_rfl)) (fun _ _ _ h => h) (Or.inl ⟨by rfl, ?_⟩) ?_ ?_
          rotate_left
          ·
           intro w'
           go_simp
           with_reducible rfl
          rotate_left
          ·
           simp only [Act.put, List.setIfInBounds_toArray, List.set_cons_zero, List.set_cons_succ, i64_w, i32_w]
           rfl
          refine pure_ (i := 3) (N := some 36) (v := ?_) (a' := ?_) #[J,O,J,J,O,O,O,O,O,O,O,O,O,O,O,O,O,O,O,O] rfl rfl (any_of HT_.out (by kernel_rfl)) (fun _ _ _ h => h) (Or.inl ⟨by rfl, ?_⟩) ?_ ?_
          rotate_left
          ·
           intro w'
           go_simp
           with_reducible rfl
          rotate_left
          ·
           simp only [Act.put, List.setIfInBounds_toArray, List.set_cons_zero, List.set_cons_succ, i64_w, i32_w]
           rfl
          refine pure_ (i := 4) (N := some 37) (v := ?_) (a' := ?_) #[J,O,J,J,J,O,O,O,O,O,O,O,O,O,O,O,O,O,O,O] rfl rfl (any_of HT_.out (by kernel_rfl)) (fun _ _ _ h => h) (Or.inl ⟨by rfl, ?_⟩) ?_ ?_
          rotate_left
          ·
           intro w'
           go_simp
           with_reducible rfl
          rotate_left
          ·
           simp only [Act.put, List.setIfInBounds_toArray, List.set_cons_zero, List.set_cons_succ, i64_w, i32_w]
           rfl
          refine pure_ (i := 5) (N := some 38) (v := ?_) (a' := ?_) #[J,O,J,J,J,J,O,O,O,O,O,O,O,O,O,O,O,O,O,O] rfl rfl (any_of HT_.out (by kernel_rfl)) (fun _ _ _ h => h) (Or.inl ⟨by rfl, ?_⟩) ?_ ?_
          rotate_left
          ·
           intro w'
           go_simp
           with_reducible rfl
          rotate_left
          ·
           simp only [Act.put, List.setIfInBounds_toArray, List.set_cons_zero, List.set_cons_succ, i64_w, i32_w]
           rfl
          refine pure_ (i := 8) (N := some 41) (v := ?_) (a' := ?_) #[J,O,J,J,J,J,O,O,J,O,O,O,O,O,O,O,O,O,O,O] rfl rfl (any_of HT_.out (by kernel_rfl)) (fun _ _ _ h => h) (Or.inl ⟨by rfl, ?_⟩) ?_ ?_
          rotate_left
          ·
           intro w'
           go_simp
           with_reducible rfl
          rotate_left
          ·
           simp only [Act.put, List.setIfInBounds_toArray, List.set_cons_zero, List.set_cons_succ, i64_w, i32_w]
           rfl
          refine pure_ (i := 10) (N := some 43) (v := ?_) (a' := ?_) #[J,O,J,J,J,J,O,O,J,O,J,O,O,O,O,O,O,O,O,O] rfl rfl (any_of HT_.out (by kernel_rfl)) (fun _ _ _ h => h) (Or.inl ⟨by rfl, ?_⟩) ?_ ?_
          rotate_left
          ·
           intro w'
           go_simp
           with_reducible rfl
          rotate_left
          ·
           simp only [Act.put, List.setIfInBounds_toArray, List.set_cons_zero, List.set_cons_succ, i64_w, i32_w]
           rfl
          refine pure_ (i := 11) (N := some 44) (v := ?_) (a' := ?_) #[J,O,J,J,J,J,O,O,J,O,J,J,O,O,O,O,O,O,O,O] rfl rfl (any_of HT_.out (by kernel_rfl)) (fun _ _ _ h => h) (Or.inl ⟨by rfl, ?_⟩) ?_ ?_
          rotate_left
          ·
           intro w'
           go_simp
           with_reducible rfl
          rotate_left
          ·
           simp only [Act.put, List.setIfInBounds_toArray, List.set_cons_zero, List.set_cons_succ, i64_w, i32_w]
           rfl
          refine pure_ (i := 12) (N := some 45) (v := ?_) (a' := ?_) #[J,O,J,J,J,J,O,O,J,O,J,J,J,O,O,O,O,O,O,O] rfl rfl (any_of HT_.out (by kernel_rfl)) (fun _ _ _ h => h) (Or.inl ⟨by rfl, ?_⟩) ?_ ?_
          rotate_left
          ·
           intro w'
           go_simp
           with_reducible rfl
          rotate_left
          ·
           simp only [Act.put, List.setIfInBounds_toArray, List.set_cons_zero, List.set_cons_succ, i64_w, i32_w]
           rfl
          refine pure_ (i := 13) (N := some 46) (v := ?_) (a' := ?_) #[J,O,J,J,J,J,O,O,J,O,J,J,J,J,O,O,O,O,O,O] rfl rfl (any_of HT_.out (by kernel_rfl)) (fun _ _ _ h => h) (Or.inl ⟨by rfl, ?_⟩) ?_ ?_
          rotate_left
          ·
           intro w'
           go_simp
           with_reducible rfl
          rotate_left
          ·
           simp only [Act.put, List.setIfInBounds_toArray, List.set_cons_zero, List.set_cons_succ, i64_w, i32_w]
           rfl
          refine take_ (i := 1) (N := some 34) (v := ?_) (a' := ?_) #[J,J,J,J,J,J,O,O,J,O,J,J,J,J,O,O,O,O,O,O] rfl rfl (take_ofW HT_.out HW_.out (by kernel_rfl)) (fun _ _ _ h => h) (Or.inl ⟨by rfl, ?_⟩) hHeld ?_ ?_
          rotate_left
          ·
           rintro w' ⟨s0, s1, s2, s3, s4, s5, s6, s7, s8, s9, s10, s11⟩
           go_simp
           with_reducible rfl
          rotate_left
          ·
           simp only [Act.put, List.setIfInBounds_toArray, List.set_cons_zero, List.set_cons_succ, i64_w, i32_w]
           rfl
          refine take_ (i := 6) (N := some 39) (v := ?_) (a' := ?_) #[J,J,J,J,J,J,J,O,J,O,J,J,J,J,O,O,O,O,O,O] rfl rfl (take_ofW HT_.out HW_.out (by kernel_rfl)) (fun _ _ _ h => h) (Or.inl ⟨by rfl, ?_⟩) hHeld ?_ ?_
          rotate_left
          ·
           rintro w' ⟨s0, s1, s2, s3, s4, s5, s6, s7, s8, s9, s10, s11⟩
           go_simp
           with_reducible rfl
          rotate_left
          ·
           simp only [Act.put, List.setIfInBounds_toArray, List.set_cons_zero, List.set_cons_succ, i64_w, i32_w]
           rfl
          refine pure_ (i := 7) (N := some 40) (v := ?_) (a' := ?_) #[J,J,J,J,J,J,J,J,J,O,J,J,J,J,O,O,O,O,O,O] rfl rfl (any_of HT_.out (by kernel_rfl)) (fun _ _ _ h => h) (Or.inl ⟨by rfl, ?_⟩) ?_ ?_
          rotate_left
          ·
           intro w'
           go_simp
           with_reducible rfl
          rotate_left
          ·
           simp only [Act.put, List.setIfInBounds_toArray, List.set_cons_zero, List.set_cons_succ, i64_w, i32_w]
           rfl
          refine take_ (i := 9) (N := some 42) (v := ?_) (a' := ?_) #[J,J,J,J,J,J,J,J,J,J,J,J,J,J,O,O,O,O,O,O] rfl rfl (take_ofW HT_.out HW_.out (by kernel_rfl)) (fun _ _ _ h => h) (Or.inl ⟨by rfl, ?_⟩) hHeld ?_ ?_
          rotate_left
          ·
           rintro w' ⟨s0, s1, s2, s3, s4, s5, s6, s7, s8, s9, s10, s11⟩
           go_simp
           with_reducible rfl
          rotate_left
          ·
           simp only [Act.put, List.setIfInBounds_toArray, List.set_cons_zero, List.set_cons_succ, i64_w, i32_w]
           rfl
          refine pure_ (i := 16) (N := some 49) (v := ?_) (a' := ?_) #[J,J,J,J,J,J,J,J,J,J,J,J,J,J,O,O,J,O,O,O] rfl rfl (any_of HT_.out (by kernel_rfl)) (fun _ _ _ h => h) (Or.inl ⟨by rfl, ?_⟩) ?_ ?_
          rotate_left
          ·
           intro w'
           go_simp
           with_reducible rfl
          rotate_left
          ·
           simp only [Act.put, List.setIfInBounds_toArray, List.set_cons_zero, List.set_cons_succ, i64_w, i32_w]
           rfl
          apply joinE2_ 2 #[J,J,J,J,J,J,J,J,J,J,J,J,J,J,J,J,J,J,O,O] 47 48
          case hmain =>
           intro hCont
           refine twoKL_ (i := 14) (j := 17) (Ni := some 47) (Nj := none) #[J,J,J,J,J,J,J,J,J,J,J,J,J,J,J,O,J,O,O,O] #[J,J,J,J,J,J,J,J,J,J,J,J,J,J,O,O,J,J,O,O] rfl rfl rfl rfl (by kernel_rfl) (by decide) (by decide) (fun K hK => ?_) (fun K hK => ?_)
           ·
            skip
            refine value_ (w1 := ?_) (v := ?_) (by rfl) rfl ?_ ?_
            rotate_left 2
            ·
             go_simp
             constructor
             ·
              rfl
             ·
              rfl
            refine hK.out _ _ (fun h_ => h_) ?_
            clear hK K
            refine norm_ (a' := ?_) ?_ ?_
            rotate_left
            ·
             show Act.put _ (some 47) _ = _
             simp only [Act.put, List.setIfInBounds_toArray, List.set_cons_zero, List.set_cons_succ, i64_w, i32_w]
             rfl
            refine pure_ (i := 15) (N := some 48) (v := ?_) (a' := ?_) #[J,J,J,J,J,J,J,J,J,J,J,J,J,J,J,J,J,O,O,O] rfl rfl (any_of HT_.out (by kernel_rfl)) (fun _ _ _ h => h) (Or.inl ⟨by rfl, ?_⟩) ?_ ?_
            rotate_left
            ·
             intro w'
             go_simp
             with_reducible rfl
            rotate_left
            ·
             simp only [Act.put, List.setIfInBounds_toArray, List.set_cons_zero, List.set_cons_succ, i64_w, i32_w]
             rfl
            refine last_ (i := 17) (N := none) #[J,J,J,J,J,J,J,J,J,J,J,J,J,J,J,J,J,J,O,O] rfl rfl (one_of HT_.out (by kernel_rfl)) (by decide) (fun K hK => ?_)
            have hs48 : w47.cell? ⟨gb148, 0, none⟩ = some (.int .i64 x149000_1) := (blk_cell BK148.out 0).trans rfl
            have hfs48 := blk_frozen BK148.out 0
            have hns48_0 := NB143_148.out
            have hns48_1 := NB144_148.out
            have hns48_2 := NB145_148.out
            have hns48_4 := NB154_148.out
            have hms48_0 := NB148_143.out
            have hms48_1 := NB148_144.out
            have hms48_2 := NB148_145.out
            have hms48_4 := NB148_154.out
            refine skip_ (w1 := ?_) (by rfl) rfl ?_ ?_
            rotate_left
            ·
             go_simp
             rfl
            refine hK.out _ _ ?_
            clear hK K
            exact norm_ (by rfl) hCont
           ·
            skip
            have hs48 : w47.cell? ⟨gb148, 0, none⟩ = some (.int .i64 x149000_1) := (blk_cell BK148.out 0).trans rfl
            have hfs48 := blk_frozen BK148.out 0
            have hns48_0 := NB143_148.out
            have hns48_1 := NB144_148.out
            have hns48_2 := NB145_148.out
            have hns48_4 := NB154_148.out
            have hms48_0 := NB148_143.out
            have hms48_1 := NB148_144.out
            have hms48_2 := NB148_145.out
            have hms48_4 := NB148_154.out
            refine skip_ (w1 := ?_) (by rfl) rfl ?_ ?_
            rotate_left
            ·
             go_simp
             rfl
            refine hK.out _ _ ?_
            clear hK K
            have hq4_ : ∀ v_ : Value, (World.setCell w47 ⟨gb148, 0, none⟩ v_).cell? (ad156.add (((rd l0_1 x29_1)).toNat * 4)) = some (.int .i64 ((rd_T37 l1 (rd l0_1 x29_1)).f0)) := fun v_ => (((below_set HB.out GE148.out).cell (World.block_lt_of_cell? w _ hw156_0)).trans hw156_0)
            have hq5_ : ∀ v_ : Value, (World.setCell w47 ⟨gb148, 0, none⟩ v_).cell? ⟨(ad156.add (((rd l0_1 x29_1)).toNat * 4)).block, (ad156.add (((rd l0_1 x29_1)).toNat * 4)).off + 1, none⟩ = some (.int .i64 ((rd_T37 l1 (rd l0_1 x29_1)).f1)) := fun v_ => (((below_set HB.out GE148.out).cell (World.block_lt_of_cell? w _ hw156_1)).trans hw156_1)
            have hq6_ : ∀ v_ : Value, (World.setCell w47 ⟨gb148, 0, none⟩ v_).cell? ⟨(ad156.add (((rd l0_1 x29_1)).toNat * 4)).block, (ad156.add (((rd l0_1 x29_1)).toNat * 4)).off + 2, none⟩ = some (.int .i64 ((rd_T37 l1 (rd l0_1 x29_1)).f2)) := fun v_ => (((below_set HB.out GE148.out).cell (World.block_lt_of_cell? w _ hw156_2)).trans hw156_2)
            have hq7_ : ∀ v_ : Value, (World.setCell w47 ⟨gb148, 0, none⟩ v_).cell? ⟨(ad156.add (((rd l0_1 x29_1)).toNat * 4)).block, (ad156.add (((rd l0_1 x29_1)).toNat * 4)).off + 3, none⟩ = some (.int .i64 ((rd_T37 l1 (rd l0_1 x29_1)).f3)) := fun v_ => (((below_set HB.out GE148.out).cell (World.block_lt_of_cell? w _ hw156_3)).trans hw156_3)
            have hq8_ : ∀ v_ : Value, (World.setCell w47 ⟨gb148, 0, none⟩ v_).cell? (ad156.add (((rd l0_1 x29_1)).toNat * 4)) = some (.int .i64 ((rd_T37 l1 (rd l0_1 x29_1)).f0)) := fun v_ => (((below_set HB.out GE148.out).cell (World.block_lt_of_cell? w _ hw157_0)).trans hw157_0)
            have hq9_ : ∀ v_ : Value, (World.setCell w47 ⟨gb148, 0, none⟩ v_).cell? ⟨(ad156.add (((rd l0_1 x29_1)).toNat * 4)).block, (ad156.add (((rd l0_1 x29_1)).toNat * 4)).off + 1, none⟩ = some (.int .i64 ((rd_T37 l1 (rd l0_1 x29_1)).f1)) := fun v_ => (((below_set HB.out GE148.out).cell (World.block_lt_of_cell? w _ hw157_1)).trans hw157_1)
            have hq10_ : ∀ v_ : Value, (World.setCell w47 ⟨gb148, 0, none⟩ v_).cell? ⟨(ad156.add (((rd l0_1 x29_1)).toNat * 4)).block, (ad156.add (((rd l0_1 x29_1)).toNat * 4)).off + 2, none⟩ = some (.int .i64 ((rd_T37 l1 (rd l0_1 x29_1)).f2)) := fun v_ => (((below_set HB.out GE148.out).cell (World.block_lt_of_cell? w _ hw157_2)).trans hw157_2)
            have hq11_ : ∀ v_ : Value, (World.setCell w47 ⟨gb148, 0, none⟩ v_).cell? ⟨(ad156.add (((rd l0_1 x29_1)).toNat * 4)).block, (ad156.add (((rd l0_1 x29_1)).toNat * 4)).off + 3, none⟩ = some (.int .i64 ((rd_T37 l1 (rd l0_1 x29_1)).f3)) := fun v_ => (((below_set HB.out GE148.out).cell (World.block_lt_of_cell? w _ hw157_3)).trans hw157_3)
            refine oneK_ (i := 14) (N := some 47) #[J,J,J,J,J,J,J,J,J,J,J,J,J,J,J,O,J,J,O,O] rfl rfl (by kernel_rfl) (fun K hK => ?_)
            refine value_ (w1 := ?_) (v := ?_) (by rfl) rfl ?_ ?_
            rotate_left 2
            ·
             go_simp
             constructor
             ·
              rfl
             ·
              rfl
            refine hK.out _ _ (fun h_ => h_) ?_
            clear hK K
            refine norm_ (a' := ?_) ?_ ?_
            rotate_left
            ·
             show Act.put _ (some 47) _ = _
             simp only [Act.put, List.setIfInBounds_toArray, List.set_cons_zero, List.set_cons_succ, i64_w, i32_w]
             rfl
            refine pure_ (i := 15) (N := some 48) (v := ?_) (a' := ?_) #[J,J,J,J,J,J,J,J,J,J,J,J,J,J,J,J,J,J,O,O] rfl rfl (any_of HT_.out (by kernel_rfl)) (fun _ _ _ h => h) (Or.inl ⟨by rfl, ?_⟩) ?_ ?_
            rotate_left
            ·
             intro w'
             go_simp
             with_reducible rfl
            rotate_left
            ·
             simp only [Act.put, List.setIfInBounds_toArray, List.set_cons_zero, List.set_cons_succ, i64_w, i32_w]
             rfl
            exact norm_ (by rfl) hCont
          refine norm_ (a' := ?_) ?_ ?_
          rotate_left
          ·
           simp only [putAll, Act.put, List.setIfInBounds_toArray, List.set_cons_zero, List.set_cons_succ]
           rfl
          refine pure_ (i := 18) (N := some 50) (v := ?_) (a' := ?_) #[J,J,J,J,J,J,J,J,J,J,J,J,J,J,J,J,J,J,J,O] rfl rfl (any_of HT_.out (by kernel_rfl)) (fun _ _ _ h => h) (Or.inl ⟨by rfl, ?_⟩) ?_ ?_
          rotate_left
          ·
           intro w'
           go_simp
           with_reducible rfl
          rotate_left
          ·
           simp only [Act.put, List.setIfInBounds_toArray, List.set_cons_zero, List.set_cons_succ, i64_w, i32_w]
           rfl
          refine last_ (i := 19) (N := none) #[J,J,J,J,J,J,J,J,J,J,J,J,J,J,J,J,J,J,J,J] rfl rfl (one_of HT_.out (by kernel_rfl)) (by decide) (fun K hK => ?_)
          have hs49 : w47.cell? ⟨gb148, 1, none⟩ = some (.int .i64 x149001_1) := (blk_cell BK148.out 1).trans rfl
          have hfs49 := blk_frozen BK148.out 1
          have hns49_0 := NB143_148.out
          have hns49_1 := NB144_148.out
          have hns49_2 := NB145_148.out
          have hns49_4 := NB154_148.out
          have hms49_0 := NB148_143.out
          have hms49_1 := NB148_144.out
          have hms49_2 := NB148_145.out
          have hms49_4 := NB148_154.out
          refine skip_ (w1 := ?_) (by rfl) rfl ?_ ?_
          rotate_left
          ·
           go_simp
           rfl
          refine hK.out _ _ ?_
          clear hK K
          refine done_ (done_of HT_.out (by kernel_rfl)) ?_
          have p158 : 0 ≤ ((rd l0_1 x29_1) : Int) := of_decide_eq_true (by first | (with_reducible assumption) | assumption)
          have q158 : (rd l0_1 x29_1) < (l1.length : Int) := of_decide_eq_true (by first | (with_reducible assumption) | assumption)
          obtain ⟨ad158, e158, hx158_0, hx158_1, hx158_2, hx158_3⟩ := at_T37 HR1.out (rd l0_1 x29_1) p158 q158
          obtain rfl : ad156 = ad158 := (by injection e158)
          have hn158_0 : ad156.block ≠ gb148 := Nat.ne_of_lt (Nat.lt_of_lt_of_le (by have := World.block_lt_of_cell? _ _ hx158_0; first | rwa [add_block] at this | exact this) GW148.out)
          have hn158_1 : ad156.block ≠ gb148 := Nat.ne_of_lt (Nat.lt_of_lt_of_le (by have := World.block_lt_of_cell? _ _ hx158_0; first | rwa [add_block] at this | exact this) GW148.out)
          replace hx158_0 := (HB.out.cell (World.block_lt_of_cell? w _ hx158_0)).trans hx158_0
          replace hx158_1 := (HB.out.cell (World.block_lt_of_cell? w _ hx158_1)).trans hx158_1
          replace hx158_2 := (HB.out.cell (World.block_lt_of_cell? w _ hx158_2)).trans hx158_2
          replace hx158_3 := (HB.out.cell (World.block_lt_of_cell? w _ hx158_3)).trans hx158_3
          replace hx158_0 := (cell_far (p := ⟨gb148, 0, none⟩) (by first | exact far_add hn158_0 | exact hn158_0) (.int .i64 ji29)).trans hx158_0
          replace hx158_1 := (cell_far (p := ⟨gb148, 0, none⟩) (by first | exact far_add hn158_0 | exact hn158_0) (.int .i64 ji29)).trans hx158_1
          replace hx158_2 := (cell_far (p := ⟨gb148, 0, none⟩) (by first | exact far_add hn158_0 | exact hn158_0) (.int .i64 ji29)).trans hx158_2
          replace hx158_3 := (cell_far (p := ⟨gb148, 0, none⟩) (by first | exact far_add hn158_0 | exact hn158_0) (.int .i64 ji29)).trans hx158_3
          replace hx158_0 := (cell_far (p := ⟨gb148, 1, none⟩) (by first | exact far_add hn158_1 | exact hn158_1) (.int .i64 ji30)).trans hx158_0
          replace hx158_1 := (cell_far (p := ⟨gb148, 1, none⟩) (by first | exact far_add hn158_1 | exact hn158_1) (.int .i64 ji30)).trans hx158_1
          replace hx158_2 := (cell_far (p := ⟨gb148, 1, none⟩) (by first | exact far_add hn158_1 | exact hn158_1) (.int .i64 ji30)).trans hx158_2
          replace hx158_3 := (cell_far (p := ⟨gb148, 1, none⟩) (by first | exact far_add hn158_1 | exact hn158_1) (.int .i64 ji30)).trans hx158_3
          clear hn158_0
          clear hn158_1
          replace p158 := eq_true p158
          replace q158 := eq_true q158
          try go_wp2_with (first | ((with_reducible refine gate_builtin (b := .append) (xs := #[.tmp 51, .tmp 57]) rfl ?_); at_builtin; refine Kd.R_append (Kd.int .i64) (w0 := w) w.heap.size rfl (.tmp 51) (.tmp 57) 38 3 (.int .i64 0) 8 rfl Try.underlying38 info3 rfl (by decide) (by omega) u10 x10_1 ((rd_T37 l1 (rd l0_1 x29_1)).f2) [.int .i64 ((rd_T37 l1 (rd l0_1 x29_1)).f2)] (fun _ => True) (fun _ => False) rfl (by first | (go_simp; done) | (go_simp; rfl)) ?aP (fun _ hk => hk.elim) ?aF ?aO ?aB ?aS ?aL ?_; (case aP => exact rfl); (case aB => exact (by repeat (first | (with_reducible first | exact HB.out | apply below_alloc | apply pw_below_drewN | apply below_drew1 | refine below_set ?_ GE143.out | refine below_set ?_ GE144.out | refine below_set ?_ GE145.out | refine below_set ?_ GE148.out | refine below_set ?_ GE154.out) | exact HB.out))); (case aF => exact (fun _ _ => trivial)); (case aO => exact (by (with_reducible repeat (first | apply Kd.R_alloc | apply Kd.R_drewN | apply Kd.R_drew)); exact Kd.R_mono (Kd.R_far (p := ⟨gb148, 1, none⟩) (Kd.R_far (p := ⟨gb148, 0, none⟩) (Kd.R_types HO_10.out BK148.out (by decide)) (fun _ hk => hk.2) (.int .i64 ji29)) (fun _ hk => hk.2) (.int .i64 ji30)) (fun _ hk => trivial))); (case aS => exact below_sizeA); (case aL => have := LMc31.out; omega); intro v160 w50 ho hb hg hat; rw [← Ny159.out] at ho; have n0_ := Aside0.mk (blk_grown (g := gb143) (o := .cells #[.int .i64 a0_0, .slice (some ad155) l0_1.length c0_1, .string a0_2, .int .i64 a0_3, .slice A0_4 l0_4.length c0_4, .int .i64 a0_5, .int .i64 a0_6, .int .i64 a0_7, .slice A0_8 l0_8.length c0_8, .slice A0_9 l0_9.length c0_9, .int .i64 a0_10, .int .i64 a0_11, .int .i64 a0_12, .slice A0_13 l0_13.length c0_13, .slice A0_14 l0_14.length c0_14, .slice A0_15 l0_15.length c0_15] 44 (0, 0)) (by (with_reducible repeat (first | refine blk_drewN ?_ _ | refine blk_drew ?_ | refine blk_alloc ?_ _)); refine blk_far ?_ NB143_148.out _; (with_reducible repeat (first | refine blk_drewN ?_ _ | refine blk_drew ?_ | refine blk_alloc ?_ _)); refine blk_far ?_ NB143_148.out _; (with_reducible repeat (first | refine blk_drewN ?_ _ | refine blk_drew ?_ | refine blk_alloc ?_ _)); exact BK143.out) hg (Kd.R_ne HO_10.out BK143.out (by decide))); have n1_ := Aside0.mk (blk_grown (g := gb144) (o := .cells #[.int .i64 a2_0, .int .i64 a2_1, .int .i64 a2_2, .int .i64 a2_3, .int .i64 a2_4, .int .i64 a2_5] 27 (0, 0)) (by (with_reducible repeat (first | refine blk_drewN ?_ _ | refine blk_drew ?_ | refine blk_alloc ?_ _)); refine blk_far ?_ NB144_148.out _; (with_reducible repeat (first | refine blk_drewN ?_ _ | refine blk_drew ?_ | refine blk_alloc ?_ _)); refine blk_far ?_ NB144_148.out _; (with_reducible repeat (first | refine blk_drewN ?_ _ | refine blk_drew ?_ | refine blk_alloc ?_ _)); exact BK144.out) hg (Kd.R_ne HO_10.out BK144.out (by decide))); have n2_ := Aside0.mk (blk_grown (g := gb145) (o := .cells #[.int .i64 0, .int .i64 0, .int .i64 0, .int .i64 0] 37 (0, 0)) (by (with_reducible repeat (first | refine blk_drewN ?_ _ | refine blk_drew ?_ | refine blk_alloc ?_ _)); refine blk_far ?_ NB145_148.out _; (with_reducible repeat (first | refine blk_drewN ?_ _ | refine blk_drew ?_ | refine blk_alloc ?_ _)); refine blk_far ?_ NB145_148.out _; (with_reducible repeat (first | refine blk_drewN ?_ _ | refine blk_drew ?_ | refine blk_alloc ?_ _)); exact BK145.out) hg (Kd.R_ne HO_10.out BK145.out (by decide))); have n3_ := Aside0.mk (blk_grown (g := gb148) (o := .cells #[.int .i64 ji29, .int .i64 ji30, .int .i64 0, .int .i64 x149003_1] 37 (0, 0)) (by (with_reducible repeat (first | refine blk_drewN ?_ _ | refine blk_drew ?_ | refine blk_alloc ?_ _)); refine blk_put (cs := #[.int .i64 ji29, .int .i64 x149001_1, .int .i64 0, .int .i64 x149003_1]) ?_ 1 _ rfl; (with_reducible repeat (first | refine blk_drewN ?_ _ | refine blk_drew ?_ | refine blk_alloc ?_ _)); refine blk_put (cs := #[.int .i64 x149000_1, .int .i64 x149001_1, .int .i64 0, .int .i64 x149003_1]) ?_ 0 _ rfl; (with_reducible repeat (first | refine blk_drewN ?_ _ | refine blk_drew ?_ | refine blk_alloc ?_ _)); exact BK148.out) hg (Kd.R_ne HO_10.out BK148.out (by decide))); have n4_ := Aside0.mk (blk_grown (g := gb154) (o := .cells #[.int .i64 t149, fnV t150, fnV t151, .bool false] 65 (0, 0)) (by (with_reducible repeat (first | refine blk_drewN ?_ _ | refine blk_drew ?_ | refine blk_alloc ?_ _)); refine blk_far ?_ NB154_148.out _; (with_reducible repeat (first | refine blk_drewN ?_ _ | refine blk_drew ?_ | refine blk_alloc ?_ _)); refine blk_far ?_ NB154_148.out _; (with_reducible repeat (first | refine blk_drewN ?_ _ | refine blk_drew ?_ | refine blk_alloc ?_ _)); exact BK154.out) hg (Kd.R_ne HO_10.out BK154.out (by decide))); have n5_ := Aside0.mk (hb); have n6_ := Aside0.mk (ho); clear BK143; clear BK144; clear BK145; clear BK148; clear BK154; clear HB; clear HO_10; have BK143 := n0_; have BK144 := n1_; have BK145 := n2_; have BK148 := n3_; have BK154 := n4_; have HB := n5_; have HO161 := n6_; clear n0_ n1_ n2_ n3_ n4_ n5_ n6_; clear ho hb hg hat; have hnb51 := NB154_143.out; have hnc51 := NB143_154.out; have hnb52 := NB154_144.out; have hnc52 := NB144_154.out; have hnb53 := NB154_145.out; have hnc53 := NB145_154.out; have hnb54 := NB154_148.out; have hnc54 := NB148_154.out; obtain ⟨hcz55_0, hcz55_1, hcz55_2, hcz55_3, hfz55_0, hfz55_1, hfz55_2, hfz55_3⟩ := blk4 BK154.out))
          go_roundg k1
          case measure => have := HK1.out; omega
          case rel => exact ⟨(y159), (wrap64 (x29_1 + 1)), (ji29), (ji30), (x149003_1), (by first | rfl | (simp; done) | (simp [*]; done)), H', ⟨by have := HK1.out; omega⟩, ⟨by (with_reducible repeat (first | apply Kd.R_alloc | apply Kd.R_drewN | apply Kd.R_drew)); exact HO161.out⟩, ⟨by (with_reducible repeat (first | refine blk_drewN ?_ _ | refine blk_drew ?_ | refine blk_alloc ?_ _)); exact BK143.out⟩, ⟨by (with_reducible repeat (first | refine blk_drewN ?_ _ | refine blk_drew ?_ | refine blk_alloc ?_ _)); exact BK144.out⟩, ⟨by (with_reducible repeat (first | refine blk_drewN ?_ _ | refine blk_drew ?_ | refine blk_alloc ?_ _)); exact BK145.out⟩, ⟨by (with_reducible repeat (first | refine blk_drewN ?_ _ | refine blk_drew ?_ | refine blk_alloc ?_ _)); exact BK148.out⟩, ⟨by (with_reducible repeat (first | refine blk_drewN ?_ _ | refine blk_drew ?_ | refine blk_alloc ?_ _)); exact BK154.out⟩, ⟨by repeat (first | (with_reducible first | exact HB.out | apply below_alloc | apply pw_below_drewN | apply below_drew1 | refine below_set ?_ GE143.out | refine below_set ?_ GE144.out | refine below_set ?_ GE145.out | refine below_set ?_ GE148.out | refine below_set ?_ GE154.out) | exact HB.out)⟩⟩
        ·
         rw [if_neg c31] at H
         exact absurd H (by simp)
       ·
        rw [if_neg c28] at H
        exact absurd H (by simp)
      ·
       rw [if_neg c27] at H
       exact absurd H (by simp)
     ·
      rw [if_neg c26] at H
      exact absurd H (by simp)
    ·
     rw [if_neg c25] at H
     exact absurd H (by simp)
   ·
    rw [if_neg c24] at H
    have c24b0 : decide (x29_1 < (l0_1.length : Int)) = false := decide_eq_false c24
    clear c24
    by_cases c56 : a0_0 = 0
    ·
     rw [if_pos c56] at H
     have c56b0 : (a0_0 == 0) = true := beq_iff_eq.mpr c56
     have c56b1 : (a0_0 != 0) = false := bne_eq_false_iff_eq.mpr c56
     clear c56
     simp only [Option.some.injEq, Prod.mk.injEq] at H
     obtain ⟨rfl, rfl, rfl, rfl⟩ := H
     have hnb57 := NB148_143.out
     have hnc57 := NB143_148.out
     have hnb58 := NB148_144.out
     have hnc58 := NB144_148.out
     have hnb59 := NB148_145.out
     have hnc59 := NB145_148.out
     have hnb60 := NB148_154.out
     have hnc60 := NB154_148.out
     obtain ⟨hcz61_0, hcz61_1, hcz61_2, hcz61_3, hfz61_0, hfz61_1, hfz61_2, hfz61_3⟩ := blk4 BK148.out
     have hnb62 := NB143_144.out
     have hnc62 := NB144_143.out
     have hnb63 := NB143_145.out
     have hnc63 := NB145_143.out
     have hnb64 := NB143_154.out
     have hnc64 := NB154_143.out
     obtain ⟨hcz65_0, hcz65_1, hcz65_2, hcz65_3, hcz65_4, hcz65_5, hcz65_6, hcz65_7, hcz65_8, hcz65_9, hcz65_10, hcz65_11, hcz65_12, hcz65_13, hcz65_14, hcz65_15, hfz65_0, hfz65_1, hfz65_2, hfz65_3, hfz65_4, hfz65_5, hfz65_6, hfz65_7, hfz65_8, hfz65_9, hfz65_10, hfz65_11, hfz65_12, hfz65_13, hfz65_14, hfz65_15⟩ := blk16 BK143.out
     have hnb66 := NB144_145.out
     have hnc66 := NB145_144.out
     have hnb67 := NB144_154.out
     have hnc67 := NB154_144.out
     obtain ⟨hcz68_0, hcz68_1, hcz68_2, hcz68_3, hcz68_4, hcz68_5, hfz68_0, hfz68_1, hfz68_2, hfz68_3, hfz68_4, hfz68_5⟩ := blk6 BK144.out
     have hnb69 := NB145_154.out
     have hnc69 := NB154_145.out
     obtain ⟨hcz70_0, hcz70_1, hcz70_2, hcz70_3, hfz70_0, hfz70_1, hfz70_2, hfz70_3⟩ := blk4 BK145.out
     go_wp2
     refine bodyPost_ret (results_cell_row rfl _ _ gb145 37 #[.int .i64 (wrap64 (x149000_1 + t146)), .int .i64 (wrap64 (x149001_1 + t147)), .int .i64 (wrap64 (a2_0 * a2_4)), .int .i64 x149003_1] (0, 0) _ rfl (by (with_reducible repeat (first | refine blk_drewN ?_ _ | refine blk_drew ?_ | refine blk_alloc ?_ _)); refine blk_put (cs := #[.int .i64 (wrap64 (x149000_1 + t146)), .int .i64 (wrap64 (x149001_1 + t147)), .int .i64 (wrap64 (a2_0 * a2_4)), .int .i64 0]) ?_ 3 _ rfl; (with_reducible repeat (first | refine blk_drewN ?_ _ | refine blk_drew ?_ | refine blk_alloc ?_ _)); refine blk_put (cs := #[.int .i64 (wrap64 (x149000_1 + t146)), .int .i64 (wrap64 (x149001_1 + t147)), .int .i64 0, .int .i64 0]) ?_ 2 _ rfl; (with_reducible repeat (first | refine blk_drewN ?_ _ | refine blk_drew ?_ | refine blk_alloc ?_ _)); refine blk_put (cs := #[.int .i64 (wrap64 (x149000_1 + t146)), .int .i64 0, .int .i64 0, .int .i64 0]) ?_ 1 _ rfl; (with_reducible repeat (first | refine blk_drewN ?_ _ | refine blk_drew ?_ | refine blk_alloc ?_ _)); refine blk_put (cs := #[.int .i64 0, .int .i64 0, .int .i64 0, .int .i64 0]) ?_ 0 _ rfl; (with_reducible repeat (first | refine blk_drewN ?_ _ | refine blk_drew ?_ | refine blk_alloc ?_ _)); refine blk_far ?_ NB145_148.out _; (with_reducible repeat (first | refine blk_drewN ?_ _ | refine blk_drew ?_ | refine blk_alloc ?_ _)); refine blk_far ?_ NB145_148.out _; (with_reducible repeat (first | refine blk_drewN ?_ _ | refine blk_drew ?_ | refine blk_alloc ?_ _)); refine blk_far ?_ NB145_148.out _; (with_reducible repeat (first | refine blk_drewN ?_ _ | refine blk_drew ?_ | refine blk_alloc ?_ _)); exact BK145.out) Try.underlying37 rfl (by kernel_rfl)) rfl ?_
     exact ⟨by first | rfl | (simp [errW_none, errW_some] <;> rfl) | (simp [*, errW_none, errW_some] <;> rfl), by repeat (first | (with_reducible first | exact HB.out | apply below_alloc | apply pw_below_drewN | apply below_drew1 | refine below_set ?_ GE143.out | refine below_set ?_ GE144.out | refine below_set ?_ GE145.out | refine below_set ?_ GE148.out | refine below_set ?_ GE154.out) | exact HB.out)⟩
    ·
     rw [if_neg c56] at H
     have c56b0 : (a0_0 == 0) = false := beq_eq_false_iff_ne.mpr c56
     have c56b1 : (a0_0 != 0) = true := bne_iff_ne.mpr c56
     by_cases c71 : a0_0 = 3
     ·
      rw [if_pos c71] at H
      have c71b0 : (a0_0 == 3) = true := beq_iff_eq.mpr c71
      have c71b1 : (a0_0 != 3) = false := bne_eq_false_iff_eq.mpr c71
      clear c71
      by_cases c72 : 0 < (x10_1.length : Int)
      ·
       rw [if_pos c72] at H
       have c72b0 : decide (0 < (x10_1.length : Int)) = true := decide_eq_true c72
       have c72b1 : decide (0 < x10_1.length) = true := decide_eq_true (by omega)
       clear c72
       by_cases c73 : 1 < (x10_1.length : Int)
       ·
        rw [if_pos c73] at H
        have c73b0 : decide (1 < (x10_1.length : Int)) = true := decide_eq_true c73
        have c73b1 : decide (1 < x10_1.length) = true := decide_eq_true (by omega)
        clear c73
        replace H := Option.bind_eq_some_iff.mp H
        obtain ⟨t168, A740, H⟩ := H
        replace H : (some (wrap64 (x149000_1 + t146), wrap64 (x149001_1 + t147), t168, x149003_1)) = some (r1, r2, r3, r4) := H
        have A74 := Aside0.mk A740
        clear A740
        simp only [Option.some.injEq, Prod.mk.injEq] at H
        obtain ⟨rfl, rfl, rfl, rfl⟩ := H
        have hnb75 := NB148_143.out
        have hnc75 := NB143_148.out
        have hnb76 := NB148_144.out
        have hnc76 := NB144_148.out
        have hnb77 := NB148_145.out
        have hnc77 := NB145_148.out
        have hnb78 := NB148_154.out
        have hnc78 := NB154_148.out
        obtain ⟨hcz79_0, hcz79_1, hcz79_2, hcz79_3, hfz79_0, hfz79_1, hfz79_2, hfz79_3⟩ := blk4 BK148.out
        have hnb80 := NB143_144.out
        have hnc80 := NB144_143.out
        have hnb81 := NB143_145.out
        have hnc81 := NB145_143.out
        have hnb82 := NB143_154.out
        have hnc82 := NB154_143.out
        obtain ⟨hcz83_0, hcz83_1, hcz83_2, hcz83_3, hcz83_4, hcz83_5, hcz83_6, hcz83_7, hcz83_8, hcz83_9, hcz83_10, hcz83_11, hcz83_12, hcz83_13, hcz83_14, hcz83_15, hfz83_0, hfz83_1, hfz83_2, hfz83_3, hfz83_4, hfz83_5, hfz83_6, hfz83_7, hfz83_8, hfz83_9, hfz83_10, hfz83_11, hfz83_12, hfz83_13, hfz83_14, hfz83_15⟩ := blk16 BK143.out
        try go_wp2
        have n0_ : Aside0 (Kd.R (Kd.int .i64) 3 ((wr.setCell ⟨gb148, 0, none⟩ (.int .i64 (wrap64 (x149000_1 + t146)))).setCell ⟨gb148, 1, none⟩ (.int .i64 (wrap64 (x149001_1 + t147)))) w.heap.size (fun _ => True) u10 x10_1) := ⟨by (with_reducible repeat (first | apply Kd.R_alloc | apply Kd.R_drewN | apply Kd.R_drew)); exact Kd.R_mono (Kd.R_far (p := ⟨gb148, 1, none⟩) (Kd.R_far (p := ⟨gb148, 0, none⟩) (Kd.R_types HO_10.out BK148.out (by decide)) (fun _ hk => hk.2) (.int .i64 (wrap64 (x149000_1 + t146)))) (fun _ hk => hk.2) (.int .i64 (wrap64 (x149001_1 + t147)))) (fun _ hk => trivial)⟩
        have n1_ : Aside0 (((wr.setCell ⟨gb148, 0, none⟩ (.int .i64 (wrap64 (x149000_1 + t146)))).setCell ⟨gb148, 1, none⟩ (.int .i64 (wrap64 (x149001_1 + t147)))).heap[gb143]? = some (.cells #[.int .i64 a0_0, .slice A0_1 l0_1.length c0_1, .string a0_2, .int .i64 a0_3, .slice A0_4 l0_4.length c0_4, .int .i64 a0_5, .int .i64 a0_6, .int .i64 a0_7, .slice A0_8 l0_8.length c0_8, .slice A0_9 l0_9.length c0_9, .int .i64 a0_10, .int .i64 a0_11, .int .i64 a0_12, .slice A0_13 l0_13.length c0_13, .slice A0_14 l0_14.length c0_14, .slice A0_15 l0_15.length c0_15] 44 (0, 0))) := ⟨by (with_reducible repeat (first | refine blk_drewN ?_ _ | refine blk_drew ?_ | refine blk_alloc ?_ _)); refine blk_far ?_ NB143_148.out _; (with_reducible repeat (first | refine blk_drewN ?_ _ | refine blk_drew ?_ | refine blk_alloc ?_ _)); refine blk_far ?_ NB143_148.out _; (with_reducible repeat (first | refine blk_drewN ?_ _ | refine blk_drew ?_ | refine blk_alloc ?_ _)); exact BK143.out⟩
        have n2_ : Aside0 (((wr.setCell ⟨gb148, 0, none⟩ (.int .i64 (wrap64 (x149000_1 + t146)))).setCell ⟨gb148, 1, none⟩ (.int .i64 (wrap64 (x149001_1 + t147)))).heap[gb144]? = some (.cells #[.int .i64 a2_0, .int .i64 a2_1, .int .i64 a2_2, .int .i64 a2_3, .int .i64 a2_4, .int .i64 a2_5] 27 (0, 0))) := ⟨by (with_reducible repeat (first | refine blk_drewN ?_ _ | refine blk_drew ?_ | refine blk_alloc ?_ _)); refine blk_far ?_ NB144_148.out _; (with_reducible repeat (first | refine blk_drewN ?_ _ | refine blk_drew ?_ | refine blk_alloc ?_ _)); refine blk_far ?_ NB144_148.out _; (with_reducible repeat (first | refine blk_drewN ?_ _ | refine blk_drew ?_ | refine blk_alloc ?_ _)); exact BK144.out⟩
        have n3_ : Aside0 (((wr.setCell ⟨gb148, 0, none⟩ (.int .i64 (wrap64 (x149000_1 + t146)))).setCell ⟨gb148, 1, none⟩ (.int .i64 (wrap64 (x149001_1 + t147)))).heap[gb145]? = some (.cells #[.int .i64 0, .int .i64 0, .int .i64 0, .int .i64 0] 37 (0, 0))) := ⟨by (with_reducible repeat (first | refine blk_drewN ?_ _ | refine blk_drew ?_ | refine blk_alloc ?_ _)); refine blk_far ?_ NB145_148.out _; (with_reducible repeat (first | refine blk_drewN ?_ _ | refine blk_drew ?_ | refine blk_alloc ?_ _)); refine blk_far ?_ NB145_148.out _; (with_reducible repeat (first | refine blk_drewN ?_ _ | refine blk_drew ?_ | refine blk_alloc ?_ _)); exact BK145.out⟩
        have n4_ : Aside0 (((wr.setCell ⟨gb148, 0, none⟩ (.int .i64 (wrap64 (x149000_1 + t146)))).setCell ⟨gb148, 1, none⟩ (.int .i64 (wrap64 (x149001_1 + t147)))).heap[gb148]? = some (.cells #[.int .i64 (wrap64 (x149000_1 + t146)), .int .i64 (wrap64 (x149001_1 + t147)), .int .i64 0, .int .i64 x149003_1] 37 (0, 0))) := ⟨by (with_reducible repeat (first | refine blk_drewN ?_ _ | refine blk_drew ?_ | refine blk_alloc ?_ _)); refine blk_put (cs := #[.int .i64 (wrap64 (x149000_1 + t146)), .int .i64 x149001_1, .int .i64 0, .int .i64 x149003_1]) ?_ 1 _ rfl; (with_reducible repeat (first | refine blk_drewN ?_ _ | refine blk_drew ?_ | refine blk_alloc ?_ _)); refine blk_put (cs := #[.int .i64 x149000_1, .int .i64 x149001_1, .int .i64 0, .int .i64 x149003_1]) ?_ 0 _ rfl; (with_reducible repeat (first | refine blk_drewN ?_ _ | refine blk_drew ?_ | refine blk_alloc ?_ _)); exact BK148.out⟩
        have n5_ : Aside0 (((wr.setCell ⟨gb148, 0, none⟩ (.int .i64 (wrap64 (x149000_1 + t146)))).setCell ⟨gb148, 1, none⟩ (.int .i64 (wrap64 (x149001_1 + t147)))).heap[gb154]? = some (.cells #[.int .i64 t149, fnV t150, fnV t151, .bool t152] 65 (0, 0))) := ⟨by (with_reducible repeat (first | refine blk_drewN ?_ _ | refine blk_drew ?_ | refine blk_alloc ?_ _)); refine blk_far ?_ NB154_148.out _; (with_reducible repeat (first | refine blk_drewN ?_ _ | refine blk_drew ?_ | refine blk_alloc ?_ _)); refine blk_far ?_ NB154_148.out _; (with_reducible repeat (first | refine blk_drewN ?_ _ | refine blk_drew ?_ | refine blk_alloc ?_ _)); exact BK154.out⟩
        have n6_ : Aside0 (Below w.heap.size w ((wr.setCell ⟨gb148, 0, none⟩ (.int .i64 (wrap64 (x149000_1 + t146)))).setCell ⟨gb148, 1, none⟩ (.int .i64 (wrap64 (x149001_1 + t147))))) := ⟨by repeat (first | (with_reducible first | exact HB.out | apply below_alloc | apply pw_below_drewN | apply below_drew1 | refine below_set ?_ GE143.out | refine below_set ?_ GE144.out | refine below_set ?_ GE145.out | refine below_set ?_ GE148.out | refine below_set ?_ GE154.out) | exact HB.out)⟩
        (try clear HO_10)
        (try clear BK143)
        (try clear BK144)
        (try clear BK145)
        (try clear BK148)
        (try clear BK154)
        (try clear HB)
        generalize ((wr.setCell ⟨gb148, 0, none⟩ (.int .i64 (wrap64 (x149000_1 + t146)))).setCell ⟨gb148, 1, none⟩ (.int .i64 (wrap64 (x149001_1 + t147)))) = w84 at n0_ n1_ n2_ n3_ n4_ n5_ n6_ ⊢
        have HO_10 := n0_
        have BK143 := n1_
        have BK144 := n2_
        have BK145 := n3_
        have BK148 := n4_
        have BK154 := n5_
        have HB := n6_
        clear n0_ n1_ n2_ n3_ n4_ n5_ n6_
        have n0_ := Aside0.mk (Kd.R_drew HO_10.out)
        have n1_ := Aside0.mk (blk_drew BK143.out)
        have n2_ := Aside0.mk (blk_drew BK144.out)
        have n3_ := Aside0.mk (blk_drew BK145.out)
        have n4_ := Aside0.mk (blk_drew BK148.out)
        have n5_ := Aside0.mk (blk_drew BK154.out)
        have n6_ := Aside0.mk (below_drew1 HB.out)
        clear HO_10
        clear BK143
        clear BK144
        clear BK145
        clear BK148
        clear BK154
        clear HB
        have HO_10 := n0_
        have BK143 := n1_
        have BK144 := n2_
        have BK145 := n3_
        have BK148 := n4_
        have BK154 := n5_
        have HB := n6_
        clear n0_ n1_ n2_ n3_ n4_ n5_ n6_
        obtain ⟨Ao86, co86, eo86⟩ := Kd.R_slice HO_10.out
        (first | subst eo86 | (injection eo86 with f1_ f2_ f3_; have f4_ := f1_.symm; have f5_ := f3_.symm; clear f1_ f2_ f3_; subst f4_; subst f5_))
        have p166 : 0 ≤ (0 : Int) := (by omega)
        have q166 : 0 < (x10_1.length : Int) := of_decide_eq_true (by first | (with_reducible assumption) | assumption)
        obtain ⟨ad166, e166, hx166_0⟩ := Kd.at_int (Kd.R_reads' HO_10.out).2.2 0 p166 q166
        cases e166
        have qi166 : (0 < x10_1.length) = True := eq_true (by omega)
        (try rw [show ((0 : Int)).toNat = 0 from rfl] at hx166_0)
        (try rw [Addr.add_zero'] at hx166_0)
        replace p166 := eq_true p166
        replace q166 := eq_true q166
        have p167 : 0 ≤ (1 : Int) := (by omega)
        have q167 : 1 < (x10_1.length : Int) := of_decide_eq_true (by first | (with_reducible assumption) | assumption)
        obtain ⟨ad167, e167, hx167_0⟩ := Kd.at_int (Kd.R_reads' HO_10.out).2.2 1 p167 q167
        obtain rfl : ad166 = ad167 := (by injection e167)
        (try simp only [show (1 : Int).toNat = 1 from rfl, Nat.reduceMul, Nat.reduceEqDiff, Go.Addr.add, ↓reduceIte] at hx167_0)
        have qi167 : (1 < x10_1.length) = True := eq_true (by omega)
        (try rw [show ((1 : Int)).toNat = 1 from rfl] at hx167_0)
        replace p167 := eq_true p167
        replace q167 := eq_true q167
        refine start_ (n := 9) (S := fun w' => w'.cell? ad166 = some (.int .i64 (rd x10_1 0)) ∧ w'.cell? ⟨ad166.block, ad166.off + 1, none⟩ = some (.int .i64 (rd x10_1 1))) (ds := []) #[O,O,O,O,O,O,O,O,O] (by kernel_rfl) rfl rfl ⟨hx166_0, hx167_0⟩ (fun hHeld => ?_); refine with_tabW bounds_bound.tab20 bounds_bound.bits20 (fun HT_ HW_ => ?_)
        generalize w84.drew = w85 at HO_10 BK143 BK144 BK145 BK148 BK154 HB hx166_0 hx167_0 hHeld ⊢
        refine pure_ (i := 0) (N := some 108) (v := ?_) (a' := ?_) #[J,O,O,O,O,O,O,O,O] rfl rfl (any_of HT_.out (by kernel_rfl)) (fun _ _ _ h => h) (Or.inl ⟨by rfl, ?_⟩) ?_ ?_
        rotate_left
        ·
         intro w'
         go_simp
         with_reducible rfl
        rotate_left
        ·
         simp only [Act.put, List.setIfInBounds_toArray, List.set_cons_zero, List.set_cons_succ, i64_w, i32_w]
         rfl
        refine pure_ (i := 1) (N := some 109) (v := ?_) (a' := ?_) #[J,J,O,O,O,O,O,O,O] rfl rfl (any_of HT_.out (by kernel_rfl)) (fun _ _ _ h => h) (Or.inl ⟨by rfl, ?_⟩) ?_ ?_
        rotate_left
        ·
         intro w'
         go_simp
         with_reducible rfl
        rotate_left
        ·
         simp only [Act.put, List.setIfInBounds_toArray, List.set_cons_zero, List.set_cons_succ, i64_w, i32_w]
         rfl
        refine pure_ (i := 3) (N := some 111) (v := ?_) (a' := ?_) #[J,J,O,J,O,O,O,O,O] rfl rfl (any_of HT_.out (by kernel_rfl)) (fun _ _ _ h => h) (Or.inl ⟨by rfl, ?_⟩) ?_ ?_
        rotate_left
        ·
         intro w'
         go_simp
         with_reducible rfl
        rotate_left
        ·
         simp only [Act.put, List.setIfInBounds_toArray, List.set_cons_zero, List.set_cons_succ, i64_w, i32_w]
         rfl
        refine pure_ (i := 4) (N := some 112) (v := ?_) (a' := ?_) #[J,J,O,J,J,O,O,O,O] rfl rfl (any_of HT_.out (by kernel_rfl)) (fun _ _ _ h => h) (Or.inl ⟨by rfl, ?_⟩) ?_ ?_
        rotate_left
        ·
         intro w'
         go_simp
         with_reducible rfl
        rotate_left
        ·
         simp only [Act.put, List.setIfInBounds_toArray, List.set_cons_zero, List.set_cons_succ, i64_w, i32_w]
         rfl
        refine take_ (i := 2) (N := some 110) (v := ?_) (a' := ?_) #[J,J,J,J,J,O,O,O,O] rfl rfl (take_ofW HT_.out HW_.out (by kernel_rfl)) (fun _ _ _ h => h) (Or.inl ⟨by rfl, ?_⟩) hHeld ?_ ?_
        rotate_left
        ·
         rintro w' ⟨s0, s1⟩
         go_simp
         with_reducible rfl
        rotate_left
        ·
         simp only [Act.put, List.setIfInBounds_toArray, List.set_cons_zero, List.set_cons_succ, i64_w, i32_w]
         rfl
        refine take_ (i := 5) (N := some 113) (v := ?_) (a' := ?_) #[J,J,J,J,J,J,O,O,O] rfl rfl (take_ofW HT_.out HW_.out (by kernel_rfl)) (fun _ _ _ h => h) (Or.inl ⟨by rfl, ?_⟩) hHeld ?_ ?_
        rotate_left
        ·
         rintro w' ⟨s0, s1⟩
         go_simp
         with_reducible rfl
        rotate_left
        ·
         simp only [Act.put, List.setIfInBounds_toArray, List.set_cons_zero, List.set_cons_succ, i64_w, i32_w]
         rfl
        refine one_ (i := 6) (N := some 114) #[J,J,J,J,J,J,J,O,O] rfl rfl (one_of HT_.out (by kernel_rfl)) (by decide) (fun K hK => ?_)
        refine goes_ Try.func32 (by kernel_rfl) rfl #[.int .i64 (rd x10_1 0), .int .i64 (rd x10_1 1)] (by rfl) rfl rfl (by (try simp only [List.map_toArray, List.map_cons, List.map_nil]); first | done | rfl | (simp only [List.length_drop, List.length_take]; rfl)) ?_
        with_reducible refine (bounds_plus.calls (rd x10_1 0) (rd x10_1 1) t168 _ A74.out).mono ?_
        rintro e w87 ⟨rfl, hb⟩
        have HS0_ := (hb.cell (World.block_lt_of_cell? _ _ (hHeld.1))).trans (hHeld.1)
        have HS1_ := (hb.cell (World.block_lt_of_cell? _ _ (hHeld.2))).trans (hHeld.2)
        refine ⟨_, rfl, ?_⟩
        have n0_ := Aside0.mk (Kd.R_below (by (with_reducible repeat (first | apply Kd.R_alloc | apply Kd.R_drewN | apply Kd.R_drew)); exact HO_10.out) hb)
        have n1_ := Aside0.mk (blk_keepA BK143.out hb)
        have n2_ := Aside0.mk (blk_keepA BK144.out hb)
        have n3_ := Aside0.mk (blk_keepA BK145.out hb)
        have n4_ := Aside0.mk (blk_keepA BK148.out hb)
        have n5_ := Aside0.mk (blk_keepA BK154.out hb)
        have n6_ := Aside0.mk (below_stepA hb)
        clear HO_10
        clear BK143
        clear BK144
        clear BK145
        clear BK148
        clear BK154
        clear HB
        have HO_10 := n0_
        have BK143 := n1_
        have BK144 := n2_
        have BK145 := n3_
        have BK148 := n4_
        have BK154 := n5_
        have HB := n6_
        clear n0_ n1_ n2_ n3_ n4_ n5_ n6_
        (try clear hb)
        (try clear hb2)
        (try clear hk)
        (try clear hi)
        refine hK.out _ _ ⟨HS0_, HS1_⟩ (fun hHeld => ?_)
        clear hK K
        refine norm_ (a' := ?_) ?_ ?_
        rotate_left
        ·
         show Act.put _ (some 114) _ = _
         simp only [Act.put, List.setIfInBounds_toArray, List.set_cons_zero, List.set_cons_succ, i64_w, i32_w]
         rfl
        refine pure_ (i := 7) (N := some 115) (v := ?_) (a' := ?_) #[J,J,J,J,J,J,J,J,O] rfl rfl (any_of HT_.out (by kernel_rfl)) (fun _ _ _ h => h) (Or.inl ⟨by rfl, ?_⟩) ?_ ?_
        rotate_left
        ·
         intro w'
         go_simp
         with_reducible rfl
        rotate_left
        ·
         simp only [Act.put, List.setIfInBounds_toArray, List.set_cons_zero, List.set_cons_succ, i64_w, i32_w]
         rfl
        refine one_ (i := 8) (N := none) #[J,J,J,J,J,J,J,J,J] rfl rfl (one_of HT_.out (by kernel_rfl)) (by decide) (fun K hK => ?_)
        have hs88 : w87.cell? ⟨gb148, 2, none⟩ = some (.int .i64 0) := (blk_cell BK148.out 2).trans rfl
        have hfs88 := blk_frozen BK148.out 2
        have hns88_0 := NB143_148.out
        have hns88_1 := NB144_148.out
        have hns88_2 := NB145_148.out
        have hns88_4 := NB154_148.out
        have hms88_0 := NB148_143.out
        have hms88_1 := NB148_144.out
        have hms88_2 := NB148_145.out
        have hms88_4 := NB148_154.out
        refine skip_ (w1 := ?_) (by rfl) rfl ?_ ?_
        rotate_left
        ·
         go_simp
         rfl
        refine hK.out _ _ ⟨((cell_far (p := ⟨gb148, _, none⟩) (by have hne_ := Kd.own_blk (Kd.R_ne HO_10.out BK148.out (by decide)); first | exact hne_ | exact far_add hne_) _).trans (hHeld.1)), ((cell_far (p := ⟨gb148, _, none⟩) (by have hne_ := Kd.own_blk (Kd.R_ne HO_10.out BK148.out (by decide)); first | exact hne_ | exact far_add hne_) _).trans (hHeld.2))⟩ (fun hHeld => ?_)
        clear hK K
        refine done_ (done_of HT_.out (by kernel_rfl)) ?_
        obtain ⟨hcz89_0, hcz89_1, hcz89_2, hcz89_3, hfz89_0, hfz89_1, hfz89_2, hfz89_3⟩ := blk4 BK148.out
        have hnb90 := NB145_144.out
        have hnc90 := NB144_145.out
        have hnb91 := NB145_154.out
        have hnc91 := NB154_145.out
        obtain ⟨hcz92_0, hcz92_1, hcz92_2, hcz92_3, hfz92_0, hfz92_1, hfz92_2, hfz92_3⟩ := blk4 BK145.out
        try go_wp2
        refine bodyPost_ret (results_cell_row rfl _ _ gb145 37 #[.int .i64 (wrap64 (x149000_1 + t146)), .int .i64 (wrap64 (x149001_1 + t147)), .int .i64 t168, .int .i64 x149003_1] (0, 0) _ rfl (by (with_reducible repeat (first | refine blk_drewN ?_ _ | refine blk_drew ?_ | refine blk_alloc ?_ _)); refine blk_put (cs := #[.int .i64 (wrap64 (x149000_1 + t146)), .int .i64 (wrap64 (x149001_1 + t147)), .int .i64 t168, .int .i64 0]) ?_ 3 _ rfl; (with_reducible repeat (first | refine blk_drewN ?_ _ | refine blk_drew ?_ | refine blk_alloc ?_ _)); refine blk_put (cs := #[.int .i64 (wrap64 (x149000_1 + t146)), .int .i64 (wrap64 (x149001_1 + t147)), .int .i64 0, .int .i64 0]) ?_ 2 _ rfl; (with_reducible repeat (first | refine blk_drewN ?_ _ | refine blk_drew ?_ | refine blk_alloc ?_ _)); refine blk_put (cs := #[.int .i64 (wrap64 (x149000_1 + t146)), .int .i64 0, .int .i64 0, .int .i64 0]) ?_ 1 _ rfl; (with_reducible repeat (first | refine blk_drewN ?_ _ | refine blk_drew ?_ | refine blk_alloc ?_ _)); refine blk_put (cs := #[.int .i64 0, .int .i64 0, .int .i64 0, .int .i64 0]) ?_ 0 _ rfl; (with_reducible repeat (first | refine blk_drewN ?_ _ | refine blk_drew ?_ | refine blk_alloc ?_ _)); refine blk_far ?_ NB145_148.out _; (with_reducible repeat (first | refine blk_drewN ?_ _ | refine blk_drew ?_ | refine blk_alloc ?_ _)); exact BK145.out) Try.underlying37 rfl (by kernel_rfl)) rfl ?_
        exact ⟨by first | rfl | (simp [errW_none, errW_some] <;> rfl) | (simp [*, errW_none, errW_some] <;> rfl), by repeat (first | (with_reducible first | exact HB.out | apply below_alloc | apply pw_below_drewN | apply below_drew1 | refine below_set ?_ GE143.out | refine below_set ?_ GE144.out | refine below_set ?_ GE145.out | refine below_set ?_ GE148.out | refine below_set ?_ GE154.out) | exact HB.out)⟩
       ·
        rw [if_neg c73] at H
        exact absurd H (by simp)
      ·
       rw [if_neg c72] at H
       exact absurd H (by simp)
     ·
      rw [if_neg c71] at H
      have c71b0 : (a0_0 == 3) = false := beq_eq_false_iff_ne.mpr c71
      have c71b1 : (a0_0 != 3) = true := bne_iff_ne.mpr c71
      have HC93 := Aside0.mk H
      clear H
      have hnb94 := NB148_143.out
      have hnc94 := NB143_148.out
      have hnb95 := NB148_144.out
      have hnc95 := NB144_148.out
      have hnb96 := NB148_145.out
      have hnc96 := NB145_148.out
      have hnb97 := NB148_154.out
      have hnc97 := NB154_148.out
      obtain ⟨hcz98_0, hcz98_1, hcz98_2, hcz98_3, hfz98_0, hfz98_1, hfz98_2, hfz98_3⟩ := blk4 BK148.out
      have hnb99 := NB143_144.out
      have hnc99 := NB144_143.out
      have hnb100 := NB143_145.out
      have hnc100 := NB145_143.out
      have hnb101 := NB143_154.out
      have hnc101 := NB154_143.out
      obtain ⟨hcz102_0, hcz102_1, hcz102_2, hcz102_3, hcz102_4, hcz102_5, hcz102_6, hcz102_7, hcz102_8, hcz102_9, hcz102_10, hcz102_11, hcz102_12, hcz102_13, hcz102_14, hcz102_15, hfz102_0, hfz102_1, hfz102_2, hfz102_3, hfz102_4, hfz102_5, hfz102_6, hfz102_7, hfz102_8, hfz102_9, hfz102_10, hfz102_11, hfz102_12, hfz102_13, hfz102_14, hfz102_15⟩ := blk16 BK143.out
      go_upto_if 116 with (fail)
      go_cut [116] (fun v116 wc => ∃ (kq : Nat) (x116_92 : Bool), v116 = .bool x116_92 ∧ Aside0 (bounds_bound.j1 kq x10_1 a0_0 x116_92 a0_0 l0_1 a0_2 a0_3 l0_4 a0_5 a0_6 a0_7 l0_8 l0_9 a0_10 a0_11 a0_12 l0_13 l0_14 l0_15 (wrap64 (x149000_1 + t146)) (wrap64 (x149001_1 + t147)) 0 x149003_1 = some (r1, r2, r3, r4)) ∧ Aside0 (kq ≤ k1) ∧ Aside0 (Kd.R (Kd.int .i64) 3 wc w.heap.size (fun _ => True) u10 x10_1) ∧ Aside0 (wc.heap[gb143]? = some (.cells #[.int .i64 a0_0, (.slice A0_1 l0_1.length c0_1), .string a0_2, .int .i64 a0_3, (.slice A0_4 l0_4.length c0_4), .int .i64 a0_5, .int .i64 a0_6, .int .i64 a0_7, (.slice A0_8 l0_8.length c0_8), (.slice A0_9 l0_9.length c0_9), .int .i64 a0_10, .int .i64 a0_11, .int .i64 a0_12, (.slice A0_13 l0_13.length c0_13), (.slice A0_14 l0_14.length c0_14), (.slice A0_15 l0_15.length c0_15)] 44 (0, 0))) ∧ Aside0 (wc.heap[gb144]? = some (.cells #[.int .i64 a2_0, .int .i64 a2_1, .int .i64 a2_2, .int .i64 a2_3, .int .i64 a2_4, .int .i64 a2_5] 27 (0, 0))) ∧ Aside0 (wc.heap[gb145]? = some (.cells #[.int .i64 0, .int .i64 0, .int .i64 0, .int .i64 0] 37 (0, 0))) ∧ Aside0 (wc.heap[gb148]? = some (.cells #[.int .i64 (wrap64 (x149000_1 + t146)), .int .i64 (wrap64 (x149001_1 + t147)), .int .i64 0, .int .i64 x149003_1] 37 (0, 0))) ∧ Aside0 (wc.heap[gb154]? = some (.cells #[.int .i64 t149, fnV t150, fnV t151, .bool t152] 65 (0, 0))) ∧ Aside0 (Below w.heap.size w wc))
      case first =>
       have H := HC93.out
       clear HC93
       by_cases c103 : a0_0 = 4
       ·
        rw [if_pos c103] at H
        have c103b0 : (a0_0 == 4) = true := beq_iff_eq.mpr c103
        have c103b1 : (a0_0 != 4) = false := bne_eq_false_iff_eq.mpr c103
        clear c103
        (first | rw [c103b0] | (simp only [i64_w, i32_w]; rw [c103b0]) | skip)
        have H' := Aside0.mk H
        clear H
        go_wp2
        go_meet
        case rel => exact ⟨_, ((a0_0 == 4)), (by first | rfl | (simp; done) | (simp [*]; done)), H', ⟨by have := HK1.out; first | omega | exact Nat.le_refl _⟩, ⟨by (with_reducible repeat (first | apply Kd.R_alloc | apply Kd.R_drewN | apply Kd.R_drew)); exact Kd.R_mono (Kd.R_far (p := ⟨gb148, 1, none⟩) (Kd.R_far (p := ⟨gb148, 0, none⟩) (Kd.R_types HO_10.out BK148.out (by decide)) (fun _ hk => hk.2) (.int .i64 (wrap64 (x149000_1 + t146)))) (fun _ hk => hk.2) (.int .i64 (wrap64 (x149001_1 + t147)))) (fun _ hk => trivial)⟩, ⟨by (with_reducible repeat (first | refine blk_drewN ?_ _ | refine blk_drew ?_ | refine blk_alloc ?_ _)); refine blk_far ?_ NB143_148.out _; (with_reducible repeat (first | refine blk_drewN ?_ _ | refine blk_drew ?_ | refine blk_alloc ?_ _)); refine blk_far ?_ NB143_148.out _; (with_reducible repeat (first | refine blk_drewN ?_ _ | refine blk_drew ?_ | refine blk_alloc ?_ _)); exact BK143.out⟩, ⟨by (with_reducible repeat (first | refine blk_drewN ?_ _ | refine blk_drew ?_ | refine blk_alloc ?_ _)); refine blk_far ?_ NB144_148.out _; (with_reducible repeat (first | refine blk_drewN ?_ _ | refine blk_drew ?_ | refine blk_alloc ?_ _)); refine blk_far ?_ NB144_148.out _; (with_reducible repeat (first | refine blk_drewN ?_ _ | refine blk_drew ?_ | refine blk_alloc ?_ _)); exact BK144.out⟩, ⟨by (with_reducible repeat (first | refine blk_drewN ?_ _ | refine blk_drew ?_ | refine blk_alloc ?_ _)); refine blk_far ?_ NB145_148.out _; (with_reducible repeat (first | refine blk_drewN ?_ _ | refine blk_drew ?_ | refine blk_alloc ?_ _)); refine blk_far ?_ NB145_148.out _; (with_reducible repeat (first | refine blk_drewN ?_ _ | refine blk_drew ?_ | refine blk_alloc ?_ _)); exact BK145.out⟩, ⟨by (with_reducible repeat (first | refine blk_drewN ?_ _ | refine blk_drew ?_ | refine blk_alloc ?_ _)); refine blk_put (cs := #[.int .i64 (wrap64 (x149000_1 + t146)), .int .i64 x149001_1, .int .i64 0, .int .i64 x149003_1]) ?_ 1 _ rfl; (with_reducible repeat (first | refine blk_drewN ?_ _ | refine blk_drew ?_ | refine blk_alloc ?_ _)); refine blk_put (cs := #[.int .i64 x149000_1, .int .i64 x149001_1, .int .i64 0, .int .i64 x149003_1]) ?_ 0 _ rfl; (with_reducible repeat (first | refine blk_drewN ?_ _ | refine blk_drew ?_ | refine blk_alloc ?_ _)); exact BK148.out⟩, ⟨by (with_reducible repeat (first | refine blk_drewN ?_ _ | refine blk_drew ?_ | refine blk_alloc ?_ _)); refine blk_far ?_ NB154_148.out _; (with_reducible repeat (first | refine blk_drewN ?_ _ | refine blk_drew ?_ | refine blk_alloc ?_ _)); refine blk_far ?_ NB154_148.out _; (with_reducible repeat (first | refine blk_drewN ?_ _ | refine blk_drew ?_ | refine blk_alloc ?_ _)); exact BK154.out⟩, ⟨by repeat (first | (with_reducible first | exact HB.out | apply below_alloc | apply pw_below_drewN | apply below_drew1 | refine below_set ?_ GE143.out | refine below_set ?_ GE144.out | refine below_set ?_ GE145.out | refine below_set ?_ GE148.out | refine below_set ?_ GE154.out) | exact HB.out)⟩⟩
       ·
        rw [if_neg c103] at H
        have c103b0 : (a0_0 == 4) = false := beq_eq_false_iff_ne.mpr c103
        have c103b1 : (a0_0 != 4) = true := bne_iff_ne.mpr c103
        (first | rw [c103b0] | (simp only [i64_w, i32_w]; rw [c103b0]) | skip)
        have H' := Aside0.mk H
        clear H
        go_wp2
        go_meet
        case rel => exact ⟨_, ((a0_0 == 5)), (by first | rfl | (simp; done) | (simp [*]; done)), H', ⟨by have := HK1.out; first | omega | exact Nat.le_refl _⟩, ⟨by (with_reducible repeat (first | apply Kd.R_alloc | apply Kd.R_drewN | apply Kd.R_drew)); exact Kd.R_mono (Kd.R_far (p := ⟨gb148, 1, none⟩) (Kd.R_far (p := ⟨gb148, 0, none⟩) (Kd.R_types HO_10.out BK148.out (by decide)) (fun _ hk => hk.2) (.int .i64 (wrap64 (x149000_1 + t146)))) (fun _ hk => hk.2) (.int .i64 (wrap64 (x149001_1 + t147)))) (fun _ hk => trivial)⟩, ⟨by (with_reducible repeat (first | refine blk_drewN ?_ _ | refine blk_drew ?_ | refine blk_alloc ?_ _)); refine blk_far ?_ NB143_148.out _; (with_reducible repeat (first | refine blk_drewN ?_ _ | refine blk_drew ?_ | refine blk_alloc ?_ _)); refine blk_far ?_ NB143_148.out _; (with_reducible repeat (first | refine blk_drewN ?_ _ | refine blk_drew ?_ | refine blk_alloc ?_ _)); exact BK143.out⟩, ⟨by (with_reducible repeat (first | refine blk_drewN ?_ _ | refine blk_drew ?_ | refine blk_alloc ?_ _)); refine blk_far ?_ NB144_148.out _; (with_reducible repeat (first | refine blk_drewN ?_ _ | refine blk_drew ?_ | refine blk_alloc ?_ _)); refine blk_far ?_ NB144_148.out _; (with_reducible repeat (first | refine blk_drewN ?_ _ | refine blk_drew ?_ | refine blk_alloc ?_ _)); exact BK144.out⟩, ⟨by (with_reducible repeat (first | refine blk_drewN ?_ _ | refine blk_drew ?_ | refine blk_alloc ?_ _)); refine blk_far ?_ NB145_148.out _; (with_reducible repeat (first | refine blk_drewN ?_ _ | refine blk_drew ?_ | refine blk_alloc ?_ _)); refine blk_far ?_ NB145_148.out _; (with_reducible repeat (first | refine blk_drewN ?_ _ | refine blk_drew ?_ | refine blk_alloc ?_ _)); exact BK145.out⟩, ⟨by (with_reducible repeat (first | refine blk_drewN ?_ _ | refine blk_drew ?_ | refine blk_alloc ?_ _)); refine blk_put (cs := #[.int .i64 (wrap64 (x149000_1 + t146)), .int .i64 x149001_1, .int .i64 0, .int .i64 x149003_1]) ?_ 1 _ rfl; (with_reducible repeat (first | refine blk_drewN ?_ _ | refine blk_drew ?_ | refine blk_alloc ?_ _)); refine blk_put (cs := #[.int .i64 x149000_1, .int .i64 x149001_1, .int .i64 0, .int .i64 x149003_1]) ?_ 0 _ rfl; (with_reducible repeat (first | refine blk_drewN ?_ _ | refine blk_drew ?_ | refine blk_alloc ?_ _)); exact BK148.out⟩, ⟨by (with_reducible repeat (first | refine blk_drewN ?_ _ | refine blk_drew ?_ | refine blk_alloc ?_ _)); refine blk_far ?_ NB154_148.out _; (with_reducible repeat (first | refine blk_drewN ?_ _ | refine blk_drew ?_ | refine blk_alloc ?_ _)); refine blk_far ?_ NB154_148.out _; (with_reducible repeat (first | refine blk_drewN ?_ _ | refine blk_drew ?_ | refine blk_alloc ?_ _)); exact BK154.out⟩, ⟨by repeat (first | (with_reducible first | exact HB.out | apply below_alloc | apply pw_below_drewN | apply below_drew1 | refine below_set ?_ GE143.out | refine below_set ?_ GE144.out | refine below_set ?_ GE145.out | refine below_set ?_ GE148.out | refine below_set ?_ GE154.out) | exact HB.out)⟩⟩
      case rest =>
       clear HC93
       try clear c1
       try clear p1
       try clear q1
       try clear hx1
       try clear qi1
       try clear c2
       try clear p2
       try clear c3
       try clear q4
       try clear c5
       try clear q5
       try clear c6
       try clear p6
       try clear q6
       try clear c7
       try clear q7
       try clear c8
       try clear q8
       try clear c9
       try clear q9
       try clear c10
       try clear q10
       try clear q11
       try clear p15
       try clear q15
       try clear hx15
       try clear p16
       try clear q16
       try clear hx16
       try clear qi16
       try clear c24
       try clear c24b0
       try clear c25
       try clear c26
       try clear c27
       try clear c28
       try clear c31
       try clear c32
       try clear c51
       try clear c52
       try clear c53
       try clear c54
       try clear c56
       try clear c56b0
       try clear c56b1
       try clear c57
       try clear c58
       try clear c59
       try clear c60
       try clear c62
       try clear c63
       try clear c64
       try clear p64
       try clear c66
       try clear c67
       try clear c69
       try clear c71
       try clear c71b0
       try clear c71b1
       try clear c72
       try clear c72b0
       try clear c72b1
       try clear c73
       try clear c73b0
       try clear c73b1
       try clear c75
       try clear c76
       try clear c77
       try clear c78
       try clear c80
       try clear c81
       try clear c82
       try clear c90
       try clear c91
       try clear c94
       try clear c95
       try clear c96
       try clear c97
       try clear c99
       try clear c100
       try clear c101
       try clear c103
       try clear c103b0
       try clear c103b1
       try clear hcz102_0
       try clear hcz102_1
       try clear hcz102_10
       try clear hcz102_11
       try clear hcz102_12
       try clear hcz102_13
       try clear hcz102_14
       try clear hcz102_15
       try clear hcz102_2
       try clear hcz102_3
       try clear hcz102_4
       try clear hcz102_5
       try clear hcz102_6
       try clear hcz102_7
       try clear hcz102_8
       try clear hcz102_9
       try clear hcz55_0
       try clear hcz55_1
       try clear hcz55_2
       try clear hcz55_3
       try clear hcz61_0
       try clear hcz61_1
       try clear hcz61_2
       try clear hcz61_3
       try clear hcz65_0
       try clear hcz65_1
       try clear hcz65_10
       try clear hcz65_11
       try clear hcz65_12
       try clear hcz65_13
       try clear hcz65_14
       try clear hcz65_15
       try clear hcz65_2
       try clear hcz65_3
       try clear hcz65_4
       try clear hcz65_5
       try clear hcz65_6
       try clear hcz65_7
       try clear hcz65_8
       try clear hcz65_9
       try clear hcz68_0
       try clear hcz68_1
       try clear hcz68_2
       try clear hcz68_3
       try clear hcz68_4
       try clear hcz68_5
       try clear hcz70_0
       try clear hcz70_1
       try clear hcz70_2
       try clear hcz70_3
       try clear hcz79_0
       try clear hcz79_1
       try clear hcz79_2
       try clear hcz79_3
       try clear hcz83_0
       try clear hcz83_1
       try clear hcz83_10
       try clear hcz83_11
       try clear hcz83_12
       try clear hcz83_13
       try clear hcz83_14
       try clear hcz83_15
       try clear hcz83_2
       try clear hcz83_3
       try clear hcz83_4
       try clear hcz83_5
       try clear hcz83_6
       try clear hcz83_7
       try clear hcz83_8
       try clear hcz83_9
       try clear hcz89_0
       try clear hcz89_1
       try clear hcz89_2
       try clear hcz89_3
       try clear hcz92_0
       try clear hcz92_1
       try clear hcz92_2
       try clear hcz92_3
       try clear hcz98_0
       try clear hcz98_1
       try clear hcz98_2
       try clear hcz98_3
       try clear hfz102_0
       try clear hfz102_1
       try clear hfz102_10
       try clear hfz102_11
       try clear hfz102_12
       try clear hfz102_13
       try clear hfz102_14
       try clear hfz102_15
       try clear hfz102_2
       try clear hfz102_3
       try clear hfz102_4
       try clear hfz102_5
       try clear hfz102_6
       try clear hfz102_7
       try clear hfz102_8
       try clear hfz102_9
       try clear hfz55_0
       try clear hfz55_1
       try clear hfz55_2
       try clear hfz55_3
       try clear hfz61_0
       try clear hfz61_1
       try clear hfz61_2
       try clear hfz61_3
       try clear hfz65_0
       try clear hfz65_1
       try clear hfz65_10
       try clear hfz65_11
       try clear hfz65_12
       try clear hfz65_13
       try clear hfz65_14
       try clear hfz65_15
       try clear hfz65_2
       try clear hfz65_3
       try clear hfz65_4
       try clear hfz65_5
       try clear hfz65_6
       try clear hfz65_7
       try clear hfz65_8
       try clear hfz65_9
       try clear hfz68_0
       try clear hfz68_1
       try clear hfz68_2
       try clear hfz68_3
       try clear hfz68_4
       try clear hfz68_5
       try clear hfz70_0
       try clear hfz70_1
       try clear hfz70_2
       try clear hfz70_3
       try clear hfz79_0
       try clear hfz79_1
       try clear hfz79_2
       try clear hfz79_3
       try clear hfz83_0
       try clear hfz83_1
       try clear hfz83_10
       try clear hfz83_11
       try clear hfz83_12
       try clear hfz83_13
       try clear hfz83_14
       try clear hfz83_15
       try clear hfz83_2
       try clear hfz83_3
       try clear hfz83_4
       try clear hfz83_5
       try clear hfz83_6
       try clear hfz83_7
       try clear hfz83_8
       try clear hfz83_9
       try clear hfz89_0
       try clear hfz89_1
       try clear hfz89_2
       try clear hfz89_3
       try clear hfz92_0
       try clear hfz92_1
       try clear hfz92_2
       try clear hfz92_3
       try clear hfz98_0
       try clear hfz98_1
       try clear hfz98_2
       try clear hfz98_3
       try clear hx158_0
       try clear hx158_1
       try clear hx158_2
       try clear hx158_3
       try clear hx166_0
       try clear hx167_0
       try clear p158
       try clear p166
       try clear p167
       try clear q158
       try clear q166
       try clear q167
       obtain ⟨kq, x116_92, rfl, HA, HJ92, HO_10, BK143, BK144, BK145, BK148, BK154, HB⟩ := hcut
       cases kq with
       | zero => exact absurd HA.out (by simp [bounds_bound.j1])
       | succ kj92 =>
        have H := HA.out
        clear HA
        simp only [bounds_bound.j1] at H
        by_cases c104 : x116_92 = true
        ·
         subst c104
         have H1 : (if 0 < (x10_1.length : Int) then ((bounds_times.f (rd x10_1 0) a0_6).bind fun t170 => (some ((wrap64 (x149000_1 + t146)), (wrap64 (x149001_1 + t147)), t170, x149003_1))) else (none)) = some (r1, r2, r3, r4) := by rw [if_pos rfl] at H; exact H
         clear H
         have H := H1
         clear H1
         by_cases c105 : 0 < (x10_1.length : Int)
         ·
          rw [if_pos c105] at H
          have c105b0 : decide (0 < (x10_1.length : Int)) = true := decide_eq_true c105
          have c105b1 : decide (0 < x10_1.length) = true := decide_eq_true (by omega)
          clear c105
          replace H := Option.bind_eq_some_iff.mp H
          obtain ⟨t170, A1060, H⟩ := H
          replace H : (some ((wrap64 (x149000_1 + t146)), (wrap64 (x149001_1 + t147)), t170, x149003_1)) = some (r1, r2, r3, r4) := H
          have A106 := Aside0.mk A1060
          clear A1060
          simp only [Option.some.injEq, Prod.mk.injEq] at H
          obtain ⟨rfl, rfl, rfl, rfl⟩ := H
          try go_wp2
          have n0_ := Aside0.mk (Kd.R_drew HO_10.out)
          have n1_ := Aside0.mk (blk_drew BK143.out)
          have n2_ := Aside0.mk (blk_drew BK144.out)
          have n3_ := Aside0.mk (blk_drew BK145.out)
          have n4_ := Aside0.mk (blk_drew BK148.out)
          have n5_ := Aside0.mk (blk_drew BK154.out)
          have n6_ := Aside0.mk (below_drew1 HB.out)
          clear HO_10
          clear BK143
          clear BK144
          clear BK145
          clear BK148
          clear BK154
          clear HB
          have HO_10 := n0_
          have BK143 := n1_
          have BK144 := n2_
          have BK145 := n3_
          have BK148 := n4_
          have BK154 := n5_
          have HB := n6_
          clear n0_ n1_ n2_ n3_ n4_ n5_ n6_
          obtain ⟨Ao108, co108, eo108⟩ := Kd.R_slice HO_10.out
          (first | subst eo108 | (injection eo108 with f1_ f2_ f3_; have f4_ := f1_.symm; have f5_ := f3_.symm; clear f1_ f2_ f3_; subst f4_; subst f5_))
          have p169 : 0 ≤ (0 : Int) := (by omega)
          have q169 : 0 < (x10_1.length : Int) := of_decide_eq_true (by first | (with_reducible assumption) | assumption)
          obtain ⟨ad169, e169, hx169_0⟩ := Kd.at_int (Kd.R_reads' HO_10.out).2.2 0 p169 q169
          cases e169
          have qi169 : (0 < x10_1.length) = True := eq_true (by omega)
          (try rw [show ((0 : Int)).toNat = 0 from rfl] at hx169_0)
          (try rw [Addr.add_zero'] at hx169_0)
          replace p169 := eq_true p169
          replace q169 := eq_true q169
          refine start_ (n := 8) (S := fun w' => w'.cell? ⟨gb143, 0, none⟩ = some (.int .i64 a0_0) ∧ w'.cell? ⟨gb143, 1, none⟩ = some (.slice A0_1 l0_1.length c0_1) ∧ w'.cell? ⟨gb143, 2, none⟩ = some (.string a0_2) ∧ w'.cell? ⟨gb143, 3, none⟩ = some (.int .i64 a0_3) ∧ w'.cell? ⟨gb143, 4, none⟩ = some (.slice A0_4 l0_4.length c0_4) ∧ w'.cell? ⟨gb143, 5, none⟩ = some (.int .i64 a0_5) ∧ w'.cell? ⟨gb143, 6, none⟩ = some (.int .i64 a0_6) ∧ w'.cell? ⟨gb143, 7, none⟩ = some (.int .i64 a0_7) ∧ w'.cell? ⟨gb143, 8, none⟩ = some (.slice A0_8 l0_8.length c0_8) ∧ w'.cell? ⟨gb143, 9, none⟩ = some (.slice A0_9 l0_9.length c0_9) ∧ w'.cell? ⟨gb143, 10, none⟩ = some (.int .i64 a0_10) ∧ w'.cell? ⟨gb143, 11, none⟩ = some (.int .i64 a0_11) ∧ w'.cell? ⟨gb143, 12, none⟩ = some (.int .i64 a0_12) ∧ w'.cell? ⟨gb143, 13, none⟩ = some (.slice A0_13 l0_13.length c0_13) ∧ w'.cell? ⟨gb143, 14, none⟩ = some (.slice A0_14 l0_14.length c0_14) ∧ w'.cell? ⟨gb143, 15, none⟩ = some (.slice A0_15 l0_15.length c0_15) ∧ w'.cell? ad169 = some (.int .i64 (rd x10_1 0))) (ds := []) #[O,O,O,O,O,O,O,O] (by kernel_rfl) rfl rfl ⟨(blk_cell BK143.out 0).trans rfl, (blk_cell BK143.out 1).trans rfl, (blk_cell BK143.out 2).trans rfl, (blk_cell BK143.out 3).trans rfl, (blk_cell BK143.out 4).trans rfl, (blk_cell BK143.out 5).trans rfl, (blk_cell BK143.out 6).trans rfl, (blk_cell BK143.out 7).trans rfl, (blk_cell BK143.out 8).trans rfl, (blk_cell BK143.out 9).trans rfl, (blk_cell BK143.out 10).trans rfl, (blk_cell BK143.out 11).trans rfl, (blk_cell BK143.out 12).trans rfl, (blk_cell BK143.out 13).trans rfl, (blk_cell BK143.out 14).trans rfl, (blk_cell BK143.out 15).trans rfl, hx169_0⟩ (fun hHeld => ?_); refine with_tabW bounds_bound.tab23 bounds_bound.bits23 (fun HT_ HW_ => ?_)
          generalize wc.drew = w107 at HO_10 BK143 BK144 BK145 BK148 BK154 HB hx169_0 hHeld ⊢
          refine pure_ (i := 0) (N := some 119) (v := ?_) (a' := ?_) #[J,O,O,O,O,O,O,O] rfl rfl (any_of HT_.out (by kernel_rfl)) (fun _ _ _ h => h) (Or.inl ⟨by rfl, ?_⟩) ?_ ?_
          rotate_left
          ·
           intro w'
           go_simp
           with_reducible rfl
          rotate_left
          ·
           simp only [Act.put, List.setIfInBounds_toArray, List.set_cons_zero, List.set_cons_succ, i64_w, i32_w]
           rfl
          refine pure_ (i := 1) (N := some 120) (v := ?_) (a' := ?_) #[J,J,O,O,O,O,O,O] rfl rfl (any_of HT_.out (by kernel_rfl)) (fun _ _ _ h => h) (Or.inl ⟨by rfl, ?_⟩) ?_ ?_
          rotate_left
          ·
           intro w'
           go_simp
           with_reducible rfl
          rotate_left
          ·
           simp only [Act.put, List.setIfInBounds_toArray, List.set_cons_zero, List.set_cons_succ, i64_w, i32_w]
           rfl
          refine pure_ (i := 3) (N := some 122) (v := ?_) (a' := ?_) #[J,J,O,J,O,O,O,O] rfl rfl (any_of HT_.out (by kernel_rfl)) (fun _ _ _ h => h) (Or.inl ⟨by rfl, ?_⟩) ?_ ?_
          rotate_left
          ·
           intro w'
           go_simp
           with_reducible rfl
          rotate_left
          ·
           simp only [Act.put, List.setIfInBounds_toArray, List.set_cons_zero, List.set_cons_succ, i64_w, i32_w]
           rfl
          refine take_ (i := 2) (N := some 121) (v := ?_) (a' := ?_) #[J,J,J,J,O,O,O,O] rfl rfl (take_ofW HT_.out HW_.out (by kernel_rfl)) (fun _ _ _ h => h) (Or.inl ⟨by rfl, ?_⟩) hHeld ?_ ?_
          rotate_left
          ·
           rintro w' ⟨s0, s1, s2, s3, s4, s5, s6, s7, s8, s9, s10, s11, s12, s13, s14, s15, s16⟩
           go_simp
           with_reducible rfl
          rotate_left
          ·
           simp only [Act.put, List.setIfInBounds_toArray, List.set_cons_zero, List.set_cons_succ, i64_w, i32_w]
           rfl
          refine take_ (i := 4) (N := some 123) (v := ?_) (a' := ?_) #[J,J,J,J,J,O,O,O] rfl rfl (take_ofW HT_.out HW_.out (by kernel_rfl)) (fun _ _ _ h => h) (Or.inl ⟨by rfl, ?_⟩) hHeld ?_ ?_
          rotate_left
          ·
           rintro w' ⟨s0, s1, s2, s3, s4, s5, s6, s7, s8, s9, s10, s11, s12, s13, s14, s15, s16⟩
           go_simp
           with_reducible rfl
          rotate_left
          ·
           simp only [Act.put, List.setIfInBounds_toArray, List.set_cons_zero, List.set_cons_succ, i64_w, i32_w]
           rfl
          refine one_ (i := 5) (N := some 124) #[J,J,J,J,J,J,O,O] rfl rfl (one_of HT_.out (by kernel_rfl)) (by decide) (fun K hK => ?_)
          refine goes_ Try.func35 (by kernel_rfl) rfl #[.int .i64 (rd x10_1 0), .int .i64 a0_6] (by rfl) rfl rfl (by (try simp only [List.map_toArray, List.map_cons, List.map_nil]); first | done | rfl | (simp only [List.length_drop, List.length_take]; rfl)) ?_
          with_reducible refine (bounds_times.calls (rd x10_1 0) a0_6 t170 _ A106.out).mono ?_
          rintro e w' ⟨rfl, ⟨nd, rfl⟩⟩
          refine ⟨_, rfl, ?_⟩
          refine hK.out _ _ ⟨(blk_cell BK143.out 0).trans rfl, (blk_cell BK143.out 1).trans rfl, (blk_cell BK143.out 2).trans rfl, (blk_cell BK143.out 3).trans rfl, (blk_cell BK143.out 4).trans rfl, (blk_cell BK143.out 5).trans rfl, (blk_cell BK143.out 6).trans rfl, (blk_cell BK143.out 7).trans rfl, (blk_cell BK143.out 8).trans rfl, (blk_cell BK143.out 9).trans rfl, (blk_cell BK143.out 10).trans rfl, (blk_cell BK143.out 11).trans rfl, (blk_cell BK143.out 12).trans rfl, (blk_cell BK143.out 13).trans rfl, (blk_cell BK143.out 14).trans rfl, (blk_cell BK143.out 15).trans rfl, hHeld.2.2.2.2.2.2.2.2.2.2.2.2.2.2.2.2⟩ (fun hHeld => ?_)
          clear hK K
          refine norm_ (a' := ?_) ?_ ?_
          rotate_left
          ·
           show Act.put _ (some 124) _ = _
           simp only [Act.put, List.setIfInBounds_toArray, List.set_cons_zero, List.set_cons_succ, i64_w, i32_w]
           rfl
          refine pure_ (i := 6) (N := some 125) (v := ?_) (a' := ?_) #[J,J,J,J,J,J,J,O] rfl rfl (any_of HT_.out (by kernel_rfl)) (fun _ _ _ h => h) (Or.inl ⟨by rfl, ?_⟩) ?_ ?_
          rotate_left
          ·
           intro w'
           go_simp
           with_reducible rfl
          rotate_left
          ·
           simp only [Act.put, List.setIfInBounds_toArray, List.set_cons_zero, List.set_cons_succ, i64_w, i32_w]
           rfl
          refine one_ (i := 7) (N := none) #[J,J,J,J,J,J,J,J] rfl rfl (one_of HT_.out (by kernel_rfl)) (by decide) (fun K hK => ?_)
          have hs109 : w107.cell? ⟨gb148, 2, none⟩ = some (.int .i64 0) := (blk_cell BK148.out 2).trans rfl
          have hfs109 := blk_frozen BK148.out 2
          have hns109_0 := NB143_148.out
          have hns109_1 := NB144_148.out
          have hns109_2 := NB145_148.out
          have hns109_4 := NB154_148.out
          have hms109_0 := NB148_143.out
          have hms109_1 := NB148_144.out
          have hms109_2 := NB148_145.out
          have hms109_4 := NB148_154.out
          refine skip_ (w1 := ?_) (by rfl) rfl ?_ ?_
          rotate_left
          ·
           go_simp
           rfl
          refine hK.out _ _ ⟨((cell_far (p := ⟨gb148, _, none⟩) NB143_148.out _).trans (hHeld.1)), ((cell_far (p := ⟨gb148, _, none⟩) NB143_148.out _).trans (hHeld.2.1)), ((cell_far (p := ⟨gb148, _, none⟩) NB143_148.out _).trans (hHeld.2.2.1)), ((cell_far (p := ⟨gb148, _, none⟩) NB143_148.out _).trans (hHeld.2.2.2.1)), ((cell_far (p := ⟨gb148, _, none⟩) NB143_148.out _).trans (hHeld.2.2.2.2.1)), ((cell_far (p := ⟨gb148, _, none⟩) NB143_148.out _).trans (hHeld.2.2.2.2.2.1)), ((cell_far (p := ⟨gb148, _, none⟩) NB143_148.out _).trans (hHeld.2.2.2.2.2.2.1)), ((cell_far (p := ⟨gb148, _, none⟩) NB143_148.out _).trans (hHeld.2.2.2.2.2.2.2.1)), ((cell_far (p := ⟨gb148, _, none⟩) NB143_148.out _).trans (hHeld.2.2.2.2.2.2.2.2.1)), ((cell_far (p := ⟨gb148, _, none⟩) NB143_148.out _).trans (hHeld.2.2.2.2.2.2.2.2.2.1)), ((cell_far (p := ⟨gb148, _, none⟩) NB143_148.out _).trans (hHeld.2.2.2.2.2.2.2.2.2.2.1)), ((cell_far (p := ⟨gb148, _, none⟩) NB143_148.out _).trans (hHeld.2.2.2.2.2.2.2.2.2.2.2.1)), ((cell_far (p := ⟨gb148, _, none⟩) NB143_148.out _).trans (hHeld.2.2.2.2.2.2.2.2.2.2.2.2.1)), ((cell_far (p := ⟨gb148, _, none⟩) NB143_148.out _).trans (hHeld.2.2.2.2.2.2.2.2.2.2.2.2.2.1)), ((cell_far (p := ⟨gb148, _, none⟩) NB143_148.out _).trans (hHeld.2.2.2.2.2.2.2.2.2.2.2.2.2.2.1)), ((cell_far (p := ⟨gb148, _, none⟩) NB143_148.out _).trans (hHeld.2.2.2.2.2.2.2.2.2.2.2.2.2.2.2.1)), ((cell_far (p := ⟨gb148, _, none⟩) (by have hne_ := Kd.own_blk (Kd.R_ne HO_10.out BK148.out (by decide)); first | exact hne_ | exact far_add hne_) _).trans (hHeld.2.2.2.2.2.2.2.2.2.2.2.2.2.2.2.2))⟩ (fun hHeld => ?_)
          clear hK K
          refine done_ (done_of HT_.out (by kernel_rfl)) ?_
          have hnb110 := NB148_143.out
          have hnc110 := NB143_148.out
          have hnb111 := NB148_144.out
          have hnc111 := NB144_148.out
          have hnb112 := NB148_145.out
          have hnc112 := NB145_148.out
          have hnb113 := NB148_154.out
          have hnc113 := NB154_148.out
          obtain ⟨hcz114_0, hcz114_1, hcz114_2, hcz114_3, hfz114_0, hfz114_1, hfz114_2, hfz114_3⟩ := blk4 BK148.out
          have hnb115 := NB145_143.out
          have hnc115 := NB143_145.out
          have hnb116 := NB145_144.out
          have hnc116 := NB144_145.out
          have hnb117 := NB145_154.out
          have hnc117 := NB154_145.out
          obtain ⟨hcz118_0, hcz118_1, hcz118_2, hcz118_3, hfz118_0, hfz118_1, hfz118_2, hfz118_3⟩ := blk4 BK145.out
          try go_wp2
          refine bodyPost_ret (results_cell_row rfl _ _ gb145 37 #[.int .i64 (wrap64 (x149000_1 + t146)), .int .i64 (wrap64 (x149001_1 + t147)), .int .i64 t170, .int .i64 x149003_1] (0, 0) _ rfl (by (with_reducible repeat (first | refine blk_drewN ?_ _ | refine blk_drew ?_ | refine blk_alloc ?_ _)); refine blk_put (cs := #[.int .i64 (wrap64 (x149000_1 + t146)), .int .i64 (wrap64 (x149001_1 + t147)), .int .i64 t170, .int .i64 0]) ?_ 3 _ rfl; (with_reducible repeat (first | refine blk_drewN ?_ _ | refine blk_drew ?_ | refine blk_alloc ?_ _)); refine blk_put (cs := #[.int .i64 (wrap64 (x149000_1 + t146)), .int .i64 (wrap64 (x149001_1 + t147)), .int .i64 0, .int .i64 0]) ?_ 2 _ rfl; (with_reducible repeat (first | refine blk_drewN ?_ _ | refine blk_drew ?_ | refine blk_alloc ?_ _)); refine blk_put (cs := #[.int .i64 (wrap64 (x149000_1 + t146)), .int .i64 0, .int .i64 0, .int .i64 0]) ?_ 1 _ rfl; (with_reducible repeat (first | refine blk_drewN ?_ _ | refine blk_drew ?_ | refine blk_alloc ?_ _)); refine blk_put (cs := #[.int .i64 0, .int .i64 0, .int .i64 0, .int .i64 0]) ?_ 0 _ rfl; (with_reducible repeat (first | refine blk_drewN ?_ _ | refine blk_drew ?_ | refine blk_alloc ?_ _)); refine blk_far ?_ NB145_148.out _; (with_reducible repeat (first | refine blk_drewN ?_ _ | refine blk_drew ?_ | refine blk_alloc ?_ _)); exact BK145.out) Try.underlying37 rfl (by kernel_rfl)) rfl ?_
          exact ⟨by first | rfl | (simp [errW_none, errW_some] <;> rfl) | (simp [*, errW_none, errW_some] <;> rfl), by repeat (first | (with_reducible first | exact HB.out | apply below_alloc | apply pw_below_drewN | apply below_drew1 | refine below_set ?_ GE143.out | refine below_set ?_ GE144.out | refine below_set ?_ GE145.out | refine below_set ?_ GE148.out | refine below_set ?_ GE154.out) | exact HB.out)⟩
         ·
          rw [if_neg c105] at H
          exact absurd H (by simp)
        ·
         replace c104 := Bool.eq_false_iff.mpr c104
         subst c104
         have H1 : (if a0_0 = 6 then (if 0 < (x10_1.length : Int) then (if 1 < (x10_1.length : Int) then ((bounds_times.f (rd x10_1 0) (rd x10_1 1)).bind fun t173 => ((bounds_times.f t173 (wrap64 ((wrap64 (a0_10 + a0_11)) + 2))).bind fun t174 => (some ((wrap64 (x149000_1 + t146)), (wrap64 (x149001_1 + t147)), t174, x149003_1)))) else (none)) else (none)) else (if 0 < (x10_1.length : Int) then (some ((wrap64 (x149000_1 + t146)), (wrap64 (x149001_1 + t147)), rd x10_1 0, x149003_1)) else (none))) = some (r1, r2, r3, r4) := by rw [if_neg (show ¬ (false = true) by decide)] at H; exact H
         clear H
         have H := H1
         clear H1
         by_cases c119 : a0_0 = 6
         ·
          rw [if_pos c119] at H
          have c119b0 : (a0_0 == 6) = true := beq_iff_eq.mpr c119
          have c119b1 : (a0_0 != 6) = false := bne_eq_false_iff_eq.mpr c119
          clear c119
          by_cases c120 : 0 < (x10_1.length : Int)
          ·
           rw [if_pos c120] at H
           have c120b0 : decide (0 < (x10_1.length : Int)) = true := decide_eq_true c120
           have c120b1 : decide (0 < x10_1.length) = true := decide_eq_true (by omega)
           clear c120
           by_cases c121 : 1 < (x10_1.length : Int)
           ·
            rw [if_pos c121] at H
            have c121b0 : decide (1 < (x10_1.length : Int)) = true := decide_eq_true c121
            have c121b1 : decide (1 < x10_1.length) = true := decide_eq_true (by omega)
            clear c121
            replace H := Option.bind_eq_some_iff.mp H
            obtain ⟨t173, A1220, H⟩ := H
            replace H : ((bounds_times.f t173 (wrap64 ((wrap64 (a0_10 + a0_11)) + 2))).bind fun t174 => (some ((wrap64 (x149000_1 + t146)), (wrap64 (x149001_1 + t147)), t174, x149003_1))) = some (r1, r2, r3, r4) := H
            have A122 := Aside0.mk A1220
            clear A1220
            replace H := Option.bind_eq_some_iff.mp H
            obtain ⟨t174, A1230, H⟩ := H
            replace H : (some ((wrap64 (x149000_1 + t146)), (wrap64 (x149001_1 + t147)), t174, x149003_1)) = some (r1, r2, r3, r4) := H
            have A123 := Aside0.mk A1230
            clear A1230
            simp only [Option.some.injEq, Prod.mk.injEq] at H
            obtain ⟨rfl, rfl, rfl, rfl⟩ := H
            try go_wp2
            have n0_ := Aside0.mk (Kd.R_drew HO_10.out)
            have n1_ := Aside0.mk (blk_drew BK143.out)
            have n2_ := Aside0.mk (blk_drew BK144.out)
            have n3_ := Aside0.mk (blk_drew BK145.out)
            have n4_ := Aside0.mk (blk_drew BK148.out)
            have n5_ := Aside0.mk (blk_drew BK154.out)
            have n6_ := Aside0.mk (below_drew1 HB.out)
            clear HO_10
            clear BK143
            clear BK144
            clear BK145
            clear BK148
            clear BK154
            clear HB
            have HO_10 := n0_
            have BK143 := n1_
            have BK144 := n2_
            have BK145 := n3_
            have BK148 := n4_
            have BK154 := n5_
            have HB := n6_
            clear n0_ n1_ n2_ n3_ n4_ n5_ n6_
            obtain ⟨Ao125, co125, eo125⟩ := Kd.R_slice HO_10.out
            (first | subst eo125 | (injection eo125 with f1_ f2_ f3_; have f4_ := f1_.symm; have f5_ := f3_.symm; clear f1_ f2_ f3_; subst f4_; subst f5_))
            have p171 : 0 ≤ (0 : Int) := (by omega)
            have q171 : 0 < (x10_1.length : Int) := of_decide_eq_true (by first | (with_reducible assumption) | assumption)
            obtain ⟨ad171, e171, hx171_0⟩ := Kd.at_int (Kd.R_reads' HO_10.out).2.2 0 p171 q171
            cases e171
            have qi171 : (0 < x10_1.length) = True := eq_true (by omega)
            (try rw [show ((0 : Int)).toNat = 0 from rfl] at hx171_0)
            (try rw [Addr.add_zero'] at hx171_0)
            replace p171 := eq_true p171
            replace q171 := eq_true q171
            have p172 : 0 ≤ (1 : Int) := (by omega)
            have q172 : 1 < (x10_1.length : Int) := of_decide_eq_true (by first | (with_reducible assumption) | assumption)
            obtain ⟨ad172, e172, hx172_0⟩ := Kd.at_int (Kd.R_reads' HO_10.out).2.2 1 p172 q172
            obtain rfl : ad171 = ad172 := (by injection e172)
            (try simp only [show (1 : Int).toNat = 1 from rfl, Nat.reduceMul, Nat.reduceEqDiff, Go.Addr.add, ↓reduceIte] at hx172_0)
            have qi172 : (1 < x10_1.length) = True := eq_true (by omega)
            (try rw [show ((1 : Int)).toNat = 1 from rfl] at hx172_0)
            replace p172 := eq_true p172
            replace q172 := eq_true q172
            refine start_ (n := 16) (S := fun w' => w'.cell? ⟨gb143, 0, none⟩ = some (.int .i64 a0_0) ∧ w'.cell? ⟨gb143, 1, none⟩ = some (.slice A0_1 l0_1.length c0_1) ∧ w'.cell? ⟨gb143, 2, none⟩ = some (.string a0_2) ∧ w'.cell? ⟨gb143, 3, none⟩ = some (.int .i64 a0_3) ∧ w'.cell? ⟨gb143, 4, none⟩ = some (.slice A0_4 l0_4.length c0_4) ∧ w'.cell? ⟨gb143, 5, none⟩ = some (.int .i64 a0_5) ∧ w'.cell? ⟨gb143, 6, none⟩ = some (.int .i64 a0_6) ∧ w'.cell? ⟨gb143, 7, none⟩ = some (.int .i64 a0_7) ∧ w'.cell? ⟨gb143, 8, none⟩ = some (.slice A0_8 l0_8.length c0_8) ∧ w'.cell? ⟨gb143, 9, none⟩ = some (.slice A0_9 l0_9.length c0_9) ∧ w'.cell? ⟨gb143, 10, none⟩ = some (.int .i64 a0_10) ∧ w'.cell? ⟨gb143, 11, none⟩ = some (.int .i64 a0_11) ∧ w'.cell? ⟨gb143, 12, none⟩ = some (.int .i64 a0_12) ∧ w'.cell? ⟨gb143, 13, none⟩ = some (.slice A0_13 l0_13.length c0_13) ∧ w'.cell? ⟨gb143, 14, none⟩ = some (.slice A0_14 l0_14.length c0_14) ∧ w'.cell? ⟨gb143, 15, none⟩ = some (.slice A0_15 l0_15.length c0_15) ∧ w'.cell? ad171 = some (.int .i64 (rd x10_1 0)) ∧ w'.cell? ⟨ad171.block, ad171.off + 1, none⟩ = some (.int .i64 (rd x10_1 1))) (ds := []) #[O,O,O,O,O,O,O,O,O,O,O,O,O,O,O,O] (by kernel_rfl) rfl rfl ⟨(blk_cell BK143.out 0).trans rfl, (blk_cell BK143.out 1).trans rfl, (blk_cell BK143.out 2).trans rfl, (blk_cell BK143.out 3).trans rfl, (blk_cell BK143.out 4).trans rfl, (blk_cell BK143.out 5).trans rfl, (blk_cell BK143.out 6).trans rfl, (blk_cell BK143.out 7).trans rfl, (blk_cell BK143.out 8).trans rfl, (blk_cell BK143.out 9).trans rfl, (blk_cell BK143.out 10).trans rfl, (blk_cell BK143.out 11).trans rfl, (blk_cell BK143.out 12).trans rfl, (blk_cell BK143.out 13).trans rfl, (blk_cell BK143.out 14).trans rfl, (blk_cell BK143.out 15).trans rfl, hx171_0, hx172_0⟩ (fun hHeld => ?_); refine with_tabW bounds_bound.tab25 bounds_bound.bits25 (fun HT_ HW_ => ?_)
            generalize wc.drew = w124 at HO_10 BK143 BK144 BK145 BK148 BK154 HB hx171_0 hx172_0 hHeld ⊢
            refine pure_ (i := 0) (N := some 128) (v := ?_) (a' := ?_) #[J,O,O,O,O,O,O,O,O,O,O,O,O,O,O,O] rfl rfl (any_of HT_.out (by kernel_rfl)) (fun _ _ _ h => h) (Or.inl ⟨by rfl, ?_⟩) ?_ ?_
            rotate_left
            ·
             intro w'
             go_simp
             with_reducible rfl
            rotate_left
            ·
             simp only [Act.put, List.setIfInBounds_toArray, List.set_cons_zero, List.set_cons_succ, i64_w, i32_w]
             rfl
            refine pure_ (i := 1) (N := some 129) (v := ?_) (a' := ?_) #[J,J,O,O,O,O,O,O,O,O,O,O,O,O,O,O] rfl rfl (any_of HT_.out (by kernel_rfl)) (fun _ _ _ h => h) (Or.inl ⟨by rfl, ?_⟩) ?_ ?_
            rotate_left
            ·
             intro w'
             go_simp
             with_reducible rfl
            rotate_left
            ·
             simp only [Act.put, List.setIfInBounds_toArray, List.set_cons_zero, List.set_cons_succ, i64_w, i32_w]
             rfl
            refine pure_ (i := 3) (N := some 131) (v := ?_) (a' := ?_) #[J,J,O,J,O,O,O,O,O,O,O,O,O,O,O,O] rfl rfl (any_of HT_.out (by kernel_rfl)) (fun _ _ _ h => h) (Or.inl ⟨by rfl, ?_⟩) ?_ ?_
            rotate_left
            ·
             intro w'
             go_simp
             with_reducible rfl
            rotate_left
            ·
             simp only [Act.put, List.setIfInBounds_toArray, List.set_cons_zero, List.set_cons_succ, i64_w, i32_w]
             rfl
            refine pure_ (i := 4) (N := some 132) (v := ?_) (a' := ?_) #[J,J,O,J,J,O,O,O,O,O,O,O,O,O,O,O] rfl rfl (any_of HT_.out (by kernel_rfl)) (fun _ _ _ h => h) (Or.inl ⟨by rfl, ?_⟩) ?_ ?_
            rotate_left
            ·
             intro w'
             go_simp
             with_reducible rfl
            rotate_left
            ·
             simp only [Act.put, List.setIfInBounds_toArray, List.set_cons_zero, List.set_cons_succ, i64_w, i32_w]
             rfl
            refine pure_ (i := 7) (N := some 135) (v := ?_) (a' := ?_) #[J,J,O,J,J,O,O,J,O,O,O,O,O,O,O,O] rfl rfl (any_of HT_.out (by kernel_rfl)) (fun _ _ _ h => h) (Or.inl ⟨by rfl, ?_⟩) ?_ ?_
            rotate_left
            ·
             intro w'
             go_simp
             with_reducible rfl
            rotate_left
            ·
             simp only [Act.put, List.setIfInBounds_toArray, List.set_cons_zero, List.set_cons_succ, i64_w, i32_w]
             rfl
            refine pure_ (i := 9) (N := some 137) (v := ?_) (a' := ?_) #[J,J,O,J,J,O,O,J,O,J,O,O,O,O,O,O] rfl rfl (any_of HT_.out (by kernel_rfl)) (fun _ _ _ h => h) (Or.inl ⟨by rfl, ?_⟩) ?_ ?_
            rotate_left
            ·
             intro w'
             go_simp
             with_reducible rfl
            rotate_left
            ·
             simp only [Act.put, List.setIfInBounds_toArray, List.set_cons_zero, List.set_cons_succ, i64_w, i32_w]
             rfl
            refine take_ (i := 2) (N := some 130) (v := ?_) (a' := ?_) #[J,J,J,J,J,O,O,J,O,J,O,O,O,O,O,O] rfl rfl (take_ofW HT_.out HW_.out (by kernel_rfl)) (fun _ _ _ h => h) (Or.inl ⟨by rfl, ?_⟩) hHeld ?_ ?_
            rotate_left
            ·
             rintro w' ⟨s0, s1, s2, s3, s4, s5, s6, s7, s8, s9, s10, s11, s12, s13, s14, s15, s16, s17⟩
             go_simp
             with_reducible rfl
            rotate_left
            ·
             simp only [Act.put, List.setIfInBounds_toArray, List.set_cons_zero, List.set_cons_succ, i64_w, i32_w]
             rfl
            refine take_ (i := 5) (N := some 133) (v := ?_) (a' := ?_) #[J,J,J,J,J,J,O,J,O,J,O,O,O,O,O,O] rfl rfl (take_ofW HT_.out HW_.out (by kernel_rfl)) (fun _ _ _ h => h) (Or.inl ⟨by rfl, ?_⟩) hHeld ?_ ?_
            rotate_left
            ·
             rintro w' ⟨s0, s1, s2, s3, s4, s5, s6, s7, s8, s9, s10, s11, s12, s13, s14, s15, s16, s17⟩
             go_simp
             with_reducible rfl
            rotate_left
            ·
             simp only [Act.put, List.setIfInBounds_toArray, List.set_cons_zero, List.set_cons_succ, i64_w, i32_w]
             rfl
            refine take_ (i := 8) (N := some 136) (v := ?_) (a' := ?_) #[J,J,J,J,J,J,O,J,J,J,O,O,O,O,O,O] rfl rfl (take_ofW HT_.out HW_.out (by kernel_rfl)) (fun _ _ _ h => h) (Or.inl ⟨by rfl, ?_⟩) hHeld ?_ ?_
            rotate_left
            ·
             rintro w' ⟨s0, s1, s2, s3, s4, s5, s6, s7, s8, s9, s10, s11, s12, s13, s14, s15, s16, s17⟩
             go_simp
             with_reducible rfl
            rotate_left
            ·
             simp only [Act.put, List.setIfInBounds_toArray, List.set_cons_zero, List.set_cons_succ, i64_w, i32_w]
             rfl
            refine take_ (i := 10) (N := some 138) (v := ?_) (a' := ?_) #[J,J,J,J,J,J,O,J,J,J,J,O,O,O,O,O] rfl rfl (take_ofW HT_.out HW_.out (by kernel_rfl)) (fun _ _ _ h => h) (Or.inl ⟨by rfl, ?_⟩) hHeld ?_ ?_
            rotate_left
            ·
             rintro w' ⟨s0, s1, s2, s3, s4, s5, s6, s7, s8, s9, s10, s11, s12, s13, s14, s15, s16, s17⟩
             go_simp
             with_reducible rfl
            rotate_left
            ·
             simp only [Act.put, List.setIfInBounds_toArray, List.set_cons_zero, List.set_cons_succ, i64_w, i32_w]
             rfl
            refine pure_ (i := 11) (N := some 139) (v := ?_) (a' := ?_) #[J,J,J,J,J,J,O,J,J,J,J,J,O,O,O,O] rfl rfl (any_of HT_.out (by kernel_rfl)) (fun _ _ _ h => h) (Or.inl ⟨by rfl, ?_⟩) ?_ ?_
            rotate_left
            ·
             intro w'
             go_simp
             with_reducible rfl
            rotate_left
            ·
             simp only [Act.put, List.setIfInBounds_toArray, List.set_cons_zero, List.set_cons_succ, i64_w, i32_w]
             rfl
            refine pure_ (i := 12) (N := some 140) (v := ?_) (a' := ?_) #[J,J,J,J,J,J,O,J,J,J,J,J,J,O,O,O] rfl rfl (any_of HT_.out (by kernel_rfl)) (fun _ _ _ h => h) (Or.inl ⟨by rfl, ?_⟩) ?_ ?_
            rotate_left
            ·
             intro w'
             go_simp
             with_reducible rfl
            rotate_left
            ·
             simp only [Act.put, List.setIfInBounds_toArray, List.set_cons_zero, List.set_cons_succ, i64_w, i32_w]
             rfl
            refine one_ (i := 6) (N := some 134) #[J,J,J,J,J,J,J,J,J,J,J,J,J,O,O,O] rfl rfl (one_of HT_.out (by kernel_rfl)) (by decide) (fun K hK => ?_)
            refine goes_ Try.func35 (by kernel_rfl) rfl #[.int .i64 (rd x10_1 0), .int .i64 (rd x10_1 1)] (by rfl) rfl rfl (by (try simp only [List.map_toArray, List.map_cons, List.map_nil]); first | done | rfl | (simp only [List.length_drop, List.length_take]; rfl)) ?_
            with_reducible refine (bounds_times.calls (rd x10_1 0) (rd x10_1 1) t173 _ A122.out).mono ?_
            rintro e w' ⟨rfl, ⟨nd, rfl⟩⟩
            refine ⟨_, rfl, ?_⟩
            refine hK.out _ _ ⟨(blk_cell BK143.out 0).trans rfl, (blk_cell BK143.out 1).trans rfl, (blk_cell BK143.out 2).trans rfl, (blk_cell BK143.out 3).trans rfl, (blk_cell BK143.out 4).trans rfl, (blk_cell BK143.out 5).trans rfl, (blk_cell BK143.out 6).trans rfl, (blk_cell BK143.out 7).trans rfl, (blk_cell BK143.out 8).trans rfl, (blk_cell BK143.out 9).trans rfl, (blk_cell BK143.out 10).trans rfl, (blk_cell BK143.out 11).trans rfl, (blk_cell BK143.out 12).trans rfl, (blk_cell BK143.out 13).trans rfl, (blk_cell BK143.out 14).trans rfl, (blk_cell BK143.out 15).trans rfl, hHeld.2.2.2.2.2.2.2.2.2.2.2.2.2.2.2.2.1, hHeld.2.2.2.2.2.2.2.2.2.2.2.2.2.2.2.2.2⟩ (fun hHeld => ?_)
            clear hK K
            refine norm_ (a' := ?_) ?_ ?_
            rotate_left
            ·
             show Act.put _ (some 134) _ = _
             simp only [Act.put, List.setIfInBounds_toArray, List.set_cons_zero, List.set_cons_succ, i64_w, i32_w]
             rfl
            refine one_ (i := 13) (N := some 141) #[J,J,J,J,J,J,J,J,J,J,J,J,J,J,O,O] rfl rfl (one_of HT_.out (by kernel_rfl)) (by decide) (fun K hK => ?_)
            refine goes_ Try.func35 (by kernel_rfl) rfl #[.int .i64 t173, .int .i64 (wrap64 ((wrap64 (a0_10 + a0_11)) + 2))] (by rfl) rfl rfl (by (try simp only [List.map_toArray, List.map_cons, List.map_nil]); first | done | rfl | (simp only [List.length_drop, List.length_take]; rfl)) ?_
            with_reducible refine (bounds_times.calls t173 (wrap64 ((wrap64 (a0_10 + a0_11)) + 2)) t174 _ A123.out).mono ?_
            rintro e w' ⟨rfl, ⟨nd, rfl⟩⟩
            refine ⟨_, rfl, ?_⟩
            refine hK.out _ _ ⟨(blk_cell BK143.out 0).trans rfl, (blk_cell BK143.out 1).trans rfl, (blk_cell BK143.out 2).trans rfl, (blk_cell BK143.out 3).trans rfl, (blk_cell BK143.out 4).trans rfl, (blk_cell BK143.out 5).trans rfl, (blk_cell BK143.out 6).trans rfl, (blk_cell BK143.out 7).trans rfl, (blk_cell BK143.out 8).trans rfl, (blk_cell BK143.out 9).trans rfl, (blk_cell BK143.out 10).trans rfl, (blk_cell BK143.out 11).trans rfl, (blk_cell BK143.out 12).trans rfl, (blk_cell BK143.out 13).trans rfl, (blk_cell BK143.out 14).trans rfl, (blk_cell BK143.out 15).trans rfl, hHeld.2.2.2.2.2.2.2.2.2.2.2.2.2.2.2.2.1, hHeld.2.2.2.2.2.2.2.2.2.2.2.2.2.2.2.2.2⟩ (fun hHeld => ?_)
            clear hK K
            refine norm_ (a' := ?_) ?_ ?_
            rotate_left
            ·
             show Act.put _ (some 141) _ = _
             simp only [Act.put, List.setIfInBounds_toArray, List.set_cons_zero, List.set_cons_succ, i64_w, i32_w]
             rfl
            refine pure_ (i := 14) (N := some 142) (v := ?_) (a' := ?_) #[J,J,J,J,J,J,J,J,J,J,J,J,J,J,J,O] rfl rfl (any_of HT_.out (by kernel_rfl)) (fun _ _ _ h => h) (Or.inl ⟨by rfl, ?_⟩) ?_ ?_
            rotate_left
            ·
             intro w'
             go_simp
             with_reducible rfl
            rotate_left
            ·
             simp only [Act.put, List.setIfInBounds_toArray, List.set_cons_zero, List.set_cons_succ, i64_w, i32_w]
             rfl
            refine one_ (i := 15) (N := none) #[J,J,J,J,J,J,J,J,J,J,J,J,J,J,J,J] rfl rfl (one_of HT_.out (by kernel_rfl)) (by decide) (fun K hK => ?_)
            have hs126 : w124.cell? ⟨gb148, 2, none⟩ = some (.int .i64 0) := (blk_cell BK148.out 2).trans rfl
            have hfs126 := blk_frozen BK148.out 2
            have hns126_0 := NB143_148.out
            have hns126_1 := NB144_148.out
            have hns126_2 := NB145_148.out
            have hns126_4 := NB154_148.out
            have hms126_0 := NB148_143.out
            have hms126_1 := NB148_144.out
            have hms126_2 := NB148_145.out
            have hms126_4 := NB148_154.out
            refine skip_ (w1 := ?_) (by rfl) rfl ?_ ?_
            rotate_left
            ·
             go_simp
             rfl
            refine hK.out _ _ ⟨((cell_far (p := ⟨gb148, _, none⟩) NB143_148.out _).trans (hHeld.1)), ((cell_far (p := ⟨gb148, _, none⟩) NB143_148.out _).trans (hHeld.2.1)), ((cell_far (p := ⟨gb148, _, none⟩) NB143_148.out _).trans (hHeld.2.2.1)), ((cell_far (p := ⟨gb148, _, none⟩) NB143_148.out _).trans (hHeld.2.2.2.1)), ((cell_far (p := ⟨gb148, _, none⟩) NB143_148.out _).trans (hHeld.2.2.2.2.1)), ((cell_far (p := ⟨gb148, _, none⟩) NB143_148.out _).trans (hHeld.2.2.2.2.2.1)), ((cell_far (p := ⟨gb148, _, none⟩) NB143_148.out _).trans (hHeld.2.2.2.2.2.2.1)), ((cell_far (p := ⟨gb148, _, none⟩) NB143_148.out _).trans (hHeld.2.2.2.2.2.2.2.1)), ((cell_far (p := ⟨gb148, _, none⟩) NB143_148.out _).trans (hHeld.2.2.2.2.2.2.2.2.1)), ((cell_far (p := ⟨gb148, _, none⟩) NB143_148.out _).trans (hHeld.2.2.2.2.2.2.2.2.2.1)), ((cell_far (p := ⟨gb148, _, none⟩) NB143_148.out _).trans (hHeld.2.2.2.2.2.2.2.2.2.2.1)), ((cell_far (p := ⟨gb148, _, none⟩) NB143_148.out _).trans (hHeld.2.2.2.2.2.2.2.2.2.2.2.1)), ((cell_far (p := ⟨gb148, _, none⟩) NB143_148.out _).trans (hHeld.2.2.2.2.2.2.2.2.2.2.2.2.1)), ((cell_far (p := ⟨gb148, _, none⟩) NB143_148.out _).trans (hHeld.2.2.2.2.2.2.2.2.2.2.2.2.2.1)), ((cell_far (p := ⟨gb148, _, none⟩) NB143_148.out _).trans (hHeld.2.2.2.2.2.2.2.2.2.2.2.2.2.2.1)), ((cell_far (p := ⟨gb148, _, none⟩) NB143_148.out _).trans (hHeld.2.2.2.2.2.2.2.2.2.2.2.2.2.2.2.1)), ((cell_far (p := ⟨gb148, _, none⟩) (by have hne_ := Kd.own_blk (Kd.R_ne HO_10.out BK148.out (by decide)); first | exact hne_ | exact far_add hne_) _).trans (hHeld.2.2.2.2.2.2.2.2.2.2.2.2.2.2.2.2.1)), ((cell_far (p := ⟨gb148, _, none⟩) (by have hne_ := Kd.own_blk (Kd.R_ne HO_10.out BK148.out (by decide)); first | exact hne_ | exact far_add hne_) _).trans (hHeld.2.2.2.2.2.2.2.2.2.2.2.2.2.2.2.2.2))⟩ (fun hHeld => ?_)
            clear hK K
            refine done_ (done_of HT_.out (by kernel_rfl)) ?_
            have hnb127 := NB148_143.out
            have hnc127 := NB143_148.out
            have hnb128 := NB148_144.out
            have hnc128 := NB144_148.out
            have hnb129 := NB148_145.out
            have hnc129 := NB145_148.out
            have hnb130 := NB148_154.out
            have hnc130 := NB154_148.out
            obtain ⟨hcz131_0, hcz131_1, hcz131_2, hcz131_3, hfz131_0, hfz131_1, hfz131_2, hfz131_3⟩ := blk4 BK148.out
            have hnb132 := NB145_143.out
            have hnc132 := NB143_145.out
            have hnb133 := NB145_144.out
            have hnc133 := NB144_145.out
            have hnb134 := NB145_154.out
            have hnc134 := NB154_145.out
            obtain ⟨hcz135_0, hcz135_1, hcz135_2, hcz135_3, hfz135_0, hfz135_1, hfz135_2, hfz135_3⟩ := blk4 BK145.out
            try go_wp2
            refine bodyPost_ret (results_cell_row rfl _ _ gb145 37 #[.int .i64 (wrap64 (x149000_1 + t146)), .int .i64 (wrap64 (x149001_1 + t147)), .int .i64 t174, .int .i64 x149003_1] (0, 0) _ rfl (by (with_reducible repeat (first | refine blk_drewN ?_ _ | refine blk_drew ?_ | refine blk_alloc ?_ _)); refine blk_put (cs := #[.int .i64 (wrap64 (x149000_1 + t146)), .int .i64 (wrap64 (x149001_1 + t147)), .int .i64 t174, .int .i64 0]) ?_ 3 _ rfl; (with_reducible repeat (first | refine blk_drewN ?_ _ | refine blk_drew ?_ | refine blk_alloc ?_ _)); refine blk_put (cs := #[.int .i64 (wrap64 (x149000_1 + t146)), .int .i64 (wrap64 (x149001_1 + t147)), .int .i64 0, .int .i64 0]) ?_ 2 _ rfl; (with_reducible repeat (first | refine blk_drewN ?_ _ | refine blk_drew ?_ | refine blk_alloc ?_ _)); refine blk_put (cs := #[.int .i64 (wrap64 (x149000_1 + t146)), .int .i64 0, .int .i64 0, .int .i64 0]) ?_ 1 _ rfl; (with_reducible repeat (first | refine blk_drewN ?_ _ | refine blk_drew ?_ | refine blk_alloc ?_ _)); refine blk_put (cs := #[.int .i64 0, .int .i64 0, .int .i64 0, .int .i64 0]) ?_ 0 _ rfl; (with_reducible repeat (first | refine blk_drewN ?_ _ | refine blk_drew ?_ | refine blk_alloc ?_ _)); refine blk_far ?_ NB145_148.out _; (with_reducible repeat (first | refine blk_drewN ?_ _ | refine blk_drew ?_ | refine blk_alloc ?_ _)); exact BK145.out) Try.underlying37 rfl (by kernel_rfl)) rfl ?_
            exact ⟨by first | rfl | (simp [errW_none, errW_some] <;> rfl) | (simp [*, errW_none, errW_some] <;> rfl), by repeat (first | (with_reducible first | exact HB.out | apply below_alloc | apply pw_below_drewN | apply below_drew1 | refine below_set ?_ GE143.out | refine below_set ?_ GE144.out | refine below_set ?_ GE145.out | refine below_set ?_ GE148.out | refine below_set ?_ GE154.out) | exact HB.out)⟩
           ·
            rw [if_neg c121] at H
            exact absurd H (by simp)
          ·
           rw [if_neg c120] at H
           exact absurd H (by simp)
         ·
          rw [if_neg c119] at H
          have c119b0 : (a0_0 == 6) = false := beq_eq_false_iff_ne.mpr c119
          have c119b1 : (a0_0 != 6) = true := bne_iff_ne.mpr c119
          by_cases c136 : 0 < (x10_1.length : Int)
          ·
           rw [if_pos c136] at H
           have c136b0 : decide (0 < (x10_1.length : Int)) = true := decide_eq_true c136
           have c136b1 : decide (0 < x10_1.length) = true := decide_eq_true (by omega)
           clear c136
           simp only [Option.some.injEq, Prod.mk.injEq] at H
           obtain ⟨rfl, rfl, rfl, rfl⟩ := H
           obtain ⟨Ao137, co137, eo137⟩ := Kd.R_slice HO_10.out
           subst eo137
           have p175 : 0 ≤ (0 : Int) := (by omega)
           have q175 : 0 < (x10_1.length : Int) := of_decide_eq_true (by first | (with_reducible assumption) | assumption)
           obtain ⟨ad175, e175, hx175_0⟩ := Kd.at_int (Kd.R_reads' HO_10.out).2.2 0 p175 q175
           cases e175
           have qi175 : (0 < x10_1.length) = True := eq_true (by omega)
           (try rw [show ((0 : Int)).toNat = 0 from rfl] at hx175_0)
           (try rw [Addr.add_zero'] at hx175_0)
           replace p175 := eq_true p175
           replace q175 := eq_true q175
           have hnb138 := NB148_143.out
           have hnc138 := NB143_148.out
           have hnb139 := NB148_144.out
           have hnc139 := NB144_148.out
           have hnb140 := NB148_145.out
           have hnc140 := NB145_148.out
           have hnb141 := NB148_154.out
           have hnc141 := NB154_148.out
           obtain ⟨hcz142_0, hcz142_1, hcz142_2, hcz142_3, hfz142_0, hfz142_1, hfz142_2, hfz142_3⟩ := blk4 BK148.out
           have hnb143 := NB145_143.out
           have hnc143 := NB143_145.out
           have hnb144 := NB145_144.out
           have hnc144 := NB144_145.out
           have hnb145 := NB145_154.out
           have hnc145 := NB154_145.out
           obtain ⟨hcz146_0, hcz146_1, hcz146_2, hcz146_3, hfz146_0, hfz146_1, hfz146_2, hfz146_3⟩ := blk4 BK145.out
           go_wp2
           refine bodyPost_ret (results_cell_row rfl _ _ gb145 37 #[.int .i64 (wrap64 (x149000_1 + t146)), .int .i64 (wrap64 (x149001_1 + t147)), .int .i64 (rd x10_1 0), .int .i64 x149003_1] (0, 0) _ rfl (by (with_reducible repeat (first | refine blk_drewN ?_ _ | refine blk_drew ?_ | refine blk_alloc ?_ _)); refine blk_put (cs := #[.int .i64 (wrap64 (x149000_1 + t146)), .int .i64 (wrap64 (x149001_1 + t147)), .int .i64 (rd x10_1 0), .int .i64 0]) ?_ 3 _ rfl; (with_reducible repeat (first | refine blk_drewN ?_ _ | refine blk_drew ?_ | refine blk_alloc ?_ _)); refine blk_put (cs := #[.int .i64 (wrap64 (x149000_1 + t146)), .int .i64 (wrap64 (x149001_1 + t147)), .int .i64 0, .int .i64 0]) ?_ 2 _ rfl; (with_reducible repeat (first | refine blk_drewN ?_ _ | refine blk_drew ?_ | refine blk_alloc ?_ _)); refine blk_put (cs := #[.int .i64 (wrap64 (x149000_1 + t146)), .int .i64 0, .int .i64 0, .int .i64 0]) ?_ 1 _ rfl; (with_reducible repeat (first | refine blk_drewN ?_ _ | refine blk_drew ?_ | refine blk_alloc ?_ _)); refine blk_put (cs := #[.int .i64 0, .int .i64 0, .int .i64 0, .int .i64 0]) ?_ 0 _ rfl; (with_reducible repeat (first | refine blk_drewN ?_ _ | refine blk_drew ?_ | refine blk_alloc ?_ _)); refine blk_far ?_ NB145_148.out _; (with_reducible repeat (first | refine blk_drewN ?_ _ | refine blk_drew ?_ | refine blk_alloc ?_ _)); exact BK145.out) Try.underlying37 rfl (by kernel_rfl)) rfl ?_
           exact ⟨by first | rfl | (simp [errW_none, errW_some] <;> rfl) | (simp [*, errW_none, errW_some] <;> rfl), by repeat (first | (with_reducible first | exact HB.out | apply below_alloc | apply pw_below_drewN | apply below_drew1 | refine below_set ?_ GE143.out | refine below_set ?_ GE144.out | refine below_set ?_ GE145.out | refine below_set ?_ GE148.out | refine below_set ?_ GE154.out) | exact HB.out)⟩
          ·
           rw [if_neg c136] at H
           exact absurd H (by simp)

end Go.Proofs.Yteoljddobfnfiaa.PB
end
