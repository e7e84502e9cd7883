/- Reading this law's arguments; erratalaw30.AggregateTypes returns true and leaves its arguments as they were, whatever they are. No condition. -/
import Derived.Test.YtmpbpgbhohefeaaSA3
import Derived.Deep.Slices
import Derived.ChangeArms
import Derived.WideShapes
import Derived.ProofKit
import Derived.OpenShut
import Derived.ShutString
import Derived.ChangeOld
import Derived.SizedLaws
import Derived.Test.YtmpbpgbhohefeaaRows
section
namespace Go.Proofs.Ytmpbpgbhohefeaa.Ag
open Go.RowKit Go.Lib Go.Sort Go.Maps Go.Shelf Go.Proofs.YtmpbpgbhohefeaaW.PrintWords Go.Proofs.YtmpbpgbhohefeaaW.PrintLast Go.Proofs.YtmpbpgbhohefeaaW.PrintMore Go.Proofs.Ytmpbpgbhohefeaa.My Go.Proofs.Ytmpbpgbhohefeaa.PAggregateTypes
set_option linter.unusedVariables false
set_option linter.unusedSimpArgs false
theorem rightB_calls (w W : World) (A : Option Addr) (c : Nat) (gs : List S33) (hG : Kd.C k33 w A gs.length gs) (hc : gs.length ≤ c) (hb : Below w.heap.size w W) :
    Calls Try.prog 5 #[.slice A gs.length c] W fun e w' => e = .returned (.bool (gs.all okA && decide (gs.length ≤ 8))) ∧ Below W.heap.size W w' := by
  refine (erratalaw30_right.calls (gs.length + 1) A c gs _ W (Kd.C_below hG hb) hc (right_f gs hG.2.1)).mono ?_
  rintro e w' ⟨he, hd⟩
  exact ⟨he, hd.below⟩
theorem wf_of {x : Int} (h : -9223372036854775808 ≤ x ∧ x ≤ 9223372036854775807) : (Lit.int .i64 x).wf = true := by
  have := wrap64_wf x
  rw [wrap_id h] at this
  exact this
theorem C43_lt {w : World} {A : Option Addr} {n : Nat} {xs : List S43} (h : Kd.C k43 w A n xs) (hn : 0 < n) {ad : Addr} (e : A = some ad) : ad.block < w.heap.size := by
  obtain ⟨ad', e', hc⟩ := h.2.2 hn
  have e2 : ad = ad' := Option.some.inj (e.symm.trans e')
  subst e2
  have hl : 0 < xs.length := by rw [h.1]; exact hn
  obtain ⟨c, _, hk, hcell⟩ := hc 0 _ (List.getElem?_eq_getElem hl)
  have hk' := k43_open hk
  subst hk'
  have := World.block_lt_of_cell? w _ (hcell 0 _ rfl)
  rw [add_block] at this
  exact this
theorem own_read0 {w : World} {base : Nat} {v : Value} {rs : List V} (h : w.ownsRow base 43 3 v rs.length (flat rs)) (hm : rs.length ≤ 1000) : ∃ A cap, v = .slice A rs.length cap ∧ Kd.C k43 w A rs.length (rs.map toS) ∧ rs.length ≤ cap := by
  rcases Nat.eq_zero_or_pos rs.length with h0 | h0
  · rcases h.2 with ⟨rfl, _⟩ | ⟨g, cap, cur, rfl, _, _, h1, _⟩
    · exact ⟨none, 0, by rw [h0], ⟨by simp, by omega, fun hn => by omega⟩, by omega⟩
    · exact ⟨_, cap, rfl, ⟨by simp, by omega, fun hn => by omega⟩, h1⟩
  · obtain ⟨g, cap, hv, _, hC, hc⟩ := own_read h h0 hm
    exact ⟨_, cap, hv, hC, hc⟩
set_option maxHeartbeats 16000000 in
set_option maxRecDepth 100000 in
theorem law_calls (w : World) (A : Option Addr) (c : Nat) (gs : List S33) (A1 : Option Addr) (c1 : Nat) (cols : List S41) (A2 : Option Addr) (c2 : Nat) (rows : List (List V))
    (hG : Kd.C k33 w A gs.length gs) (hc : gs.length ≤ c) (hC1 : Kd.C k41 w A1 cols.length cols) (hc1 : cols.length ≤ c1) (hR : Kd.C (Kd.slice 43 k43) w A2 rows.length (rows.map (List.map toS))) (hc2 : rows.length ≤ c2) :
    Calls Try.prog 3 #[.slice A gs.length c, .slice A1 cols.length c1, .slice A2 rows.length c2] w fun e w' => e = .returned (.bool true) ∧ Below w.heap.size w w' := by
  have hu33 := Try.underlying33
  have hu41 := Try.underlying41
  have hu43 := Try.underlying43
  have HG := Aside0.mk hG
  have HC1 := Aside0.mk hC1
  have HR := Aside0.mk hR
  have HRT := Aside0.mk (fun W => rightB_calls w W A c gs hG hc)
  clear hG hC1 hR
  obtain ⟨rb, hrb⟩ : ∃ b, b = (gs.all okA && decide (gs.length ≤ 8)) := ⟨_, rfl⟩
  rw [← hrb] at HRT
  have HRB := Aside0.mk hrb
  clear hrb
  have hsm := Aside0.mk (small_calls w)
  by_cases hout : rb = true ∧ cols.length ≤ 12 ∧ rows.length ≤ 40
  · obtain ⟨rfl, h12, h40⟩ := hout
    have p12 : ((cols.length : Int) > 12) = False := eq_false (by omega)
    have p40 : ((rows.length : Int) > 40) = False := eq_false (by omega)
    have H12 := Aside0.mk h12
    have H40 := Aside0.mk h40
    clear h12 h40
    go_enter Try.func3, Try.ntmps3
    go_upto_region 4 with (first
      | (go_at_call 4; refine hsm.out.mono ?_; rintro e w1 ⟨rfl, hb1⟩; have HB1 := Aside0.mk hb1; clear hb1)
      | (go_at_call 5; refine (HRT.out _ HB1.out).mono ?_; rintro e w2 ⟨rfl, hb2⟩; have HB2 := Aside0.mk (below_step HB1.out hb2); clear hb2))
    have hok : gs.all okA = true ∧ gs.length ≤ 8 := by
      have h := HRB.out
      have h' := Bool.and_eq_true_iff.1 h.symm
      exact ⟨h'.1, of_decide_eq_true h'.2⟩
    have HOK := Aside0.mk hok.1
    have H8 := Aside0.mk hok.2
    obtain ⟨out, hout⟩ : ∃ l, l = (colsF cols gs []).1 := ⟨_, rfl⟩
    obtain ⟨er, her⟩ : ∃ e, e = firstE cols gs := ⟨_, rfl⟩
    have hcf := cols_f gs cols hok.1 (by omega)
    rw [← hout, ← her] at hcf
    have HCOLS := Aside0.mk (fun W (hb : Below w.heap.size w W) => aggregate_Cols.calls (gs.length + 3) A c gs A1 c1 cols out er W (Kd.C_below HG.out hb) hc (Kd.C_below HC1.out hb) hc1 hcf)
    have HOUT := Aside0.mk hout
    have HER := Aside0.mk her
    clear hcf hok hout her HRB HRT hsm HB1
    go_upto_region 5 with (go_at_call 6; refine (HCOLS.out _ HB2.out).mono ?_; rintro e w3 ⟨v0, rfl, hor, hb3⟩; obtain ⟨AO, cO, rfl⟩ := Kd.R_slice hor; have HO := Aside0.mk (Kd.R_reads' hor); have HB3 := Aside0.mk (below_step HB2.out hb3); clear hor hb3)
    clear HCOLS
    have HTY := Aside0.mk (fun W (hb : Below w.heap.size w W) (g : S33) (hg : g ∈ gs) => aggregate_Type.calls 2 g.f0 g.f1 g.f2 A1 c1 cols _ _ W (Kd.C_below HC1.out hb) hc1 (type_f g cols 0 (List.all_eq_true.1 HOK.out g hg)))
    have h8 := H8.out
    go_upto_region 7 with (fail)
    obtain ⟨fin, hfin⟩ : ∃ f, f = firstE cols gs := ⟨_, rfl⟩
    go_loopw [10, 11] (fun v10 v11 wr => ∃ k : Nat, k ≤ gs.length ∧ v11 = .int .i64 ((k : Int) - 1) ∧ v10 = .int .i64 (firstE cols (gs.drop k)) ∧ Aside0 (Below w3.heap.size w3 wr)) (fun v10 v11 _ => (intOf v11 + 1).toNat)
    case atStart => exact ⟨gs.length, Nat.le_refl _, by go_num, by simp [firstE], ⟨Below.refl _ _⟩⟩
    case round =>
      obtain ⟨k, hk, rfl, rfl, HW⟩ := hrel
      have HB := Aside0.mk (below_step HB3.out HW.out)
      cases k with
      | succ k =>
        have e0 : ((k + 1 : Nat) : Int) - 1 = (k : Int) := by omega
        rw [e0]
        have hlt : k < gs.length := hk
        have p0 : (0 ≤ (k : Int)) = True := eq_true (Int.natCast_nonneg _)
        have p0' : ((k : Int) ≥ 0) = True := eq_true (Int.natCast_nonneg _)
        have p1 : ((k : Int) < (gs.length : Int)) = True := eq_true (by omega)
        obtain ⟨ad, eA, x0, x1, x2⟩ := at_T33 (Kd.C_below HG.out HB.out) (k : Int) (by omega) (by omega)
        rw [Int.toNat_natCast] at x0 x1 x2
        obtain ⟨g, hg⟩ : ∃ g, rd_T33 gs (k : Int) = g := ⟨_, rfl⟩
        rw [hg] at x0 x1 x2
        have hgk : gs[k]? = some g := by
          rw [← hg]; unfold rd_T33
          rw [Int.toNat_natCast, List.getD_eq_getElem?_getD, List.getElem?_eq_getElem hlt]; rfl
        have hty := fun W hb => HTY.out W hb g (List.mem_of_getElem? hgk)
        have hfd := firstE_drop (cols := cols) hgk
        obtain ⟨te, hte⟩ : ∃ t, t = typeE g cols := ⟨_, rfl⟩
        obtain ⟨tt, htt⟩ : ∃ t, t = typeT g cols := ⟨_, rfl⟩
        rw [← hte, ← htt] at hty
        rw [← hte] at hfd
        have HT := Aside0.mk hty
        have HK := Aside0.mk hk
        obtain ⟨f1, hf1⟩ : ∃ f, f = firstE cols (gs.drop (k + 1)) := ⟨_, rfl⟩
        rw [← hf1] at hfd
        rw [← hf1]
        have HFD := Aside0.mk hfd
        subst eA
        clear hg hgk hty hfd hte htt hf1 hlt e0
        by_cases hz : te = 0
        · have z : (te != 0) = false := bne_eq_false_iff_eq.mpr hz
          have HZ := Aside0.mk hz
          clear hz
          go_wp2_with (go_at_call 7; refine (HT.out _ HB.out).mono ?_; rintro e w4 ⟨rfl, hb4⟩; have HB4 := Aside0.mk (below_step HW.out hb4); clear hb4)
          go_roundw
          case rel => exact ⟨k, by have := HK.out; omega, by go_num, by rw [HFD.out, if_pos HZ.out], HB4⟩
          case measure => simp [intOf] <;> omega
        · have z : (te != 0) = true := bne_iff_ne.mpr hz
          have HZ := Aside0.mk hz
          clear hz
          go_wp2_with (go_at_call 7; refine (HT.out _ HB.out).mono ?_; rintro e w4 ⟨rfl, hb4⟩; have HB4 := Aside0.mk (below_step HW.out hb4); clear hb4)
          go_roundw
          case rel => exact ⟨k, by have := HK.out; omega, by go_num, by rw [HFD.out, if_neg HZ.out], HB4⟩
          case measure => simp [intOf] <;> omega
      | zero =>
        rw [List.drop_zero, ← HER.out]
        clear hk
        obtain ⟨wn, hwn⟩ : ∃ x, x = wr := ⟨wr, rfl⟩
        subst wr
        by_cases hz : er = 0
        · subst hz
          have ho : out.length = gs.length := by rw [HOUT.out, colsF_ok cols gs [] HER.out.symm]; simp
          have pn : ((out.length : Int) != (gs.length : Int)) = false := bne_eq_false_iff_eq.mpr (by omega)
          have HOL := Aside0.mk ho
          clear ho
          go_upto_region 19 with (go_at_call 8; refine (new_calls wn A c gs (Kd.C_below HG.out HB.out) (by omega)).mono ?_; rintro e w5 ⟨a, G, cG, s, m, ms, rfl, hacc, hcG, hb5⟩; have HACC := Aside0.mk hacc; have HB5 := Aside0.mk hb5; clear hacc hb5)
          obtain ⟨base, hbase⟩ : ∃ b, b = wn.heap.size := ⟨_, rfl⟩
          rw [← hbase] at HACC
          have HBASE := Aside0.mk hbase
          clear hbase
          have h40 := H40.out
          go_upto_region 20 with (fail)
          go_loopw [15] (fun v15 wr => ∃ (k : Nat) (sums : List Int) (bags : List (V → Int)), k ≤ rows.length ∧ v15 = .int .i64 (k : Int) ∧ Aside0 (Acc base wr a G cG s m ms gs (k : Int) sums bags (fun _ => k)) ∧ Aside0 (Inv gs rows k sums bags) ∧ Aside0 (∀ r ∈ rows.take k, Fit (r.map toS) cols) ∧ Aside0 (Below wn.heap.size wn wr)) (fun v15 _ => rows.length - (intOf v15).toNat)
          case atStart => exact ⟨0, _, _, Nat.zero_le _, rfl, HACC, ⟨Inv.init gs rows⟩, ⟨fun r hr => by simp at hr⟩, HB5⟩
          case round =>
            obtain ⟨k, sums, bags, hk, rfl, HA, HI, HF, HBQ⟩ := hrel
            by_cases hlt : k < rows.length
            · have p0 : (0 ≤ (k : Int)) = True := eq_true (Int.natCast_nonneg _)
              have p1 : ((k : Int) < (rows.length : Int)) = True := eq_true (by omega)
              have hbw : Below w.heap.size w wr := below_step HB.out HBQ.out
              obtain ⟨r, hr⟩ : ∃ r, rows[k]? = some r := ⟨_, List.getElem?_eq_getElem hlt⟩
              obtain ⟨ad, eA, hcell⟩ := HR.out.2.2 (by omega)
              obtain ⟨cs, _, ⟨Ar, cr, rfl, hcr, hCr⟩, hc0⟩ := hcell k (r.map toS) (by rw [List.getElem?_map, hr]; rfl)
              have x0w : w.cell? (ad.add k) = some (.slice Ar r.length cr) := by
                have h_ := hc0 0 _ rfl
                rw [List.length_map] at h_
                rw [show (Kd.slice 43 k43).sz = 1 from rfl] at h_
                simpa using h_
              have x0 := (hbw.cell (World.block_lt_of_cell? w _ x0w)).trans x0w
              rw [List.length_map] at hcr hCr
              have HRW := Aside0.mk hCr
              have hCr := Kd.C_below HRW.out hbw
              clear x0w
              have hfits := fits_calls wr Ar cr (r.map toS) A1 c1 cols (by rw [List.length_map]; exact hCr) (by rw [List.length_map]; exact hcr) (Kd.C_below HC1.out hbw) hc1
              rw [List.length_map] at hfits
              have HFITS := Aside0.mk hfits
              have HCR := Aside0.mk hCr
              have HRK := Aside0.mk hr
              have HCRL := Aside0.mk hcr
              have HLT := Aside0.mk hlt
              have HX0 := Aside0.mk x0
              have HK1 : Aside0 (k ≤ 1000) := ⟨by omega⟩
              have HE1 : Aside0 (wrap64 ((k : Int) + 1) = ((k + 1 : Nat) : Int)) := ⟨by rw [wrap_id (by omega)]; omega⟩
              subst eA
              clear hfits hCr hr hcr hlt hcell hc0 hbw
              go_upto_region 24 with (go_at_call 9; refine HFITS.out.mono ?_; rintro e w6 ⟨rb, rfl, hfit, hb6⟩; have HFIT := Aside0.mk hfit; have HB6 := Aside0.mk hb6; clear hfit hb6)
              · go_ret
                exact ⟨rfl, below_step HB.out (below_step HBQ.out HB6.out)⟩
              · have HFT : Aside0 (Fit (r.map toS) cols) := ⟨HFIT.out (by first | assumption | rfl | simp_all)⟩
                have hx6 : w6.cell? (ad.add k) = some (.slice Ar r.length cr) := (HB6.out.cell (World.block_lt_of_cell? wr _ HX0.out)).trans HX0.out
                have hadd := add_calls base w6 a G cG s m ms gs (k : Int) sums bags (fun _ => k) Ar cr r 1 (HA.out.below HB6.out) (by have := HBASE.out; have := HBQ.out.size; have := HB6.out.size; omega) (by omega) (fun _ => by omega) (Kd.C_below HCR.out HB6.out) HCRL.out (fun hn ad' e hM => by
                  have hlow : ad'.block < w.heap.size := C43_lt HRW.out hn e
                  have := HA.out.mut_base _ hM
                  have := HBASE.out
                  have := HB.out.size
                  omega)
                have HADD := Aside0.mk hadd
                clear hadd x0
                go_wp2_with (go_at_call 10; refine HADD.out.mono ?_; rintro e w7 ⟨rfl, hA7, hc7⟩; have HA7 := Aside0.mk hA7; have HC7 := Aside0.mk hc7; clear hA7 hc7)
                go_roundw
                case rel =>
                  have hlt := HLT.out
                  have hA := HA7.out
                  rw [HE1.out] at hA
                  have hbase : wn.heap.size ≤ w6.heap.size := (below_step HBQ.out HB6.out).size
                  have hB7 : Below wn.heap.size w6 w7 := HC7.out.below hbase (by rw [← HBASE.out]; exact HA.out.mut_base)
                  refine ⟨k + 1, _, _, hlt, by go_num, ⟨hA⟩, ⟨HI.out.step HK1.out HA.out.ls HA.out.lb (List.mem_of_getElem? HRK.out)⟩, ⟨fun x hx => ?_⟩, ⟨(below_step HBQ.out HB6.out).trans hB7⟩⟩
                  rw [List.take_add_one, HRK.out] at hx
                  rcases List.mem_append.1 hx with h1 | h1
                  · exact HF.out x h1
                  · have : x = r := by simpa using h1
                    rw [this]; exact HFT.out
                case measure => have := HLT.out; simp [intOf] <;> omega
            · have hkn : k = rows.length := by omega
              subst hkn
              have hres := result_calls base wr a G cG s m ms gs (rows.length : Int) sums bags (fun _ => rows.length) HA.out (by omega) (fun _ => by omega) (fun g hg => by have := okA_iff.1 (List.all_eq_true.1 HOK.out g hg); omega) (wf_of (by omega)) HI.out.sw (fun f hf v => (HI.out.lo f hf v).1)
              have HRES := Aside0.mk hres
              have HFA : Aside0 (∀ r ∈ rows, Fit (r.map toS) cols) := ⟨fun r hr => HF.out r (by rw [List.take_length]; exact hr)⟩
              have HBR := Aside0.mk (below_step HB.out HBQ.out)
              have HFIN : Aside0 (0 < rows.length → ∀ rs, ResAll gs (rows.length : Int) sums bags rs → ∀ (i : Nat) (g : S33) (r : V), gs[i]? = some g → rs[i]? = some r → rV (toS r) = true ∧ r.k = typeT g cols) := ⟨fun hn rs hra => final_ok HI.out HOK.out HER.out.symm HFA.out hra HA.out.ls HA.out.lb (wf_of (by omega)) hn⟩
              clear hres hk hlt HI
              go_upto_region 26 with (go_at_call 11; refine HRES.out.mono ?_; rintro e w8 ⟨v, rs, rfl, hrl, hra, hown, hb8⟩; obtain ⟨AR, cR, rfl, hCR, hcR⟩ := own_read0 hown (by omega); have HRL := Aside0.mk hrl; have HRA := Aside0.mk hra; have HCR := Aside0.mk hCR; have HB8 := Aside0.mk hb8; clear hrl hra hown hCR hb8)
              have pl : ((rs.length : Int) != (out.length : Int)) = false := bne_eq_false_iff_eq.mpr (by rw [HRL.out, HOL.out])
              have HOC : Aside0 (Kd.C k41 w8 AO out.length out) := ⟨Kd.C_below (Kd.C_below HO.out.2.2 HW.out) (below_step HBQ.out HB8.out)⟩
              have HBW := Aside0.mk (below_step HBR.out HB8.out)
              go_upto_region 29 with (fail)
              go_loopw [17] (fun v17 wr => ∃ k : Nat, k ≤ gs.length ∧ v17 = .int .i64 (k : Int) ∧ Aside0 (Below w8.heap.size w8 wr)) (fun v17 _ => gs.length - (intOf v17).toNat)
              case atStart => exact ⟨0, Nat.zero_le _, rfl, ⟨Below.refl _ _⟩⟩
              case round =>
                obtain ⟨k, hk, rfl, HB9⟩ := hrel
                by_cases hlt : k < gs.length
                · have hol := HOL.out
                  have hrl := HRL.out
                  have p0 : (0 ≤ (k : Int)) = True := eq_true (Int.natCast_nonneg _)
                  have p1 : ((k : Int) < (gs.length : Int)) = True := eq_true (by omega)
                  have p2 : ((k : Int) < (out.length : Int)) = True := eq_true (by omega)
                  have p3 : ((k : Int) < (rs.length : Int)) = True := eq_true (by omega)
                  obtain ⟨ag, eg, _, _, x2⟩ := at_T33 (Kd.C_below HG.out (below_step HBW.out HB9.out)) (k : Int) (by omega) (by omega)
                  obtain ⟨ao, eo, y0, y1, _⟩ := at_T41 (Kd.C_below HOC.out HB9.out) (k : Int) (by omega) (by omega)
                  obtain ⟨ar, er, z0, z1, z2⟩ := at_T43 (Kd.C_below HCR.out HB9.out) (k : Int) (by omega) (by omega)
                  rw [Int.toNat_natCast] at x2 y0 y1 z0 z1 z2
                  obtain ⟨g, hg⟩ : ∃ g, gs[k]? = some g := ⟨_, List.getElem?_eq_getElem hlt⟩
                  obtain ⟨r, hr⟩ : ∃ r, rs[k]? = some r := ⟨_, List.getElem?_eq_getElem (by omega)⟩
                  have e1 : rd_T33 gs (k : Int) = g := by unfold rd_T33; rw [Int.toNat_natCast, List.getD_eq_getElem?_getD, hg]; rfl
                  have e2 : rd_T43 (rs.map toS) (k : Int) = toS r := by unfold rd_T43; rw [Int.toNat_natCast, List.getD_eq_getElem?_getD, List.getElem?_map, hr]; rfl
                  have e3 : rd_T41 out (k : Int) = colOf cols g := by
                    unfold rd_T41
                    rw [Int.toNat_natCast, List.getD_eq_getElem?_getD, HOUT.out, colsF_ok cols gs [] HER.out.symm, List.nil_append, List.getElem?_map, hg]; rfl
                  rw [e1] at x2
                  rw [e2] at z0 z1 z2
                  rw [e3] at y0 y1
                  have hfin := fun hn => HFIN.out hn rs HRA.out k g r hg hr
                  obtain ⟨nm, hnm⟩ : ∃ n, n = g.f2 := ⟨_, rfl⟩
                  obtain ⟨ty, hty⟩ : ∃ n, n = typeT g cols := ⟨_, rfl⟩
                  rw [← hnm] at x2
                  rw [show (colOf cols g).f0 = g.f2 from rfl, ← hnm] at y0
                  rw [show (colOf cols g).f1 = typeT g cols from rfl, ← hty] at y1
                  rw [← hty] at hfin
                  obtain ⟨kd, hkd⟩ : ∃ n, n = r.k := ⟨_, rfl⟩
                  obtain ⟨nn, hnn⟩ : ∃ n, n = r.n := ⟨_, rfl⟩
                  obtain ⟨ss, hss⟩ : ∃ n, n = r.s := ⟨_, rfl⟩
                  rw [show (toS r).f0 = r.k from rfl, ← hkd] at z0
                  rw [show (toS r).f1 = r.n from rfl, ← hnn] at z1
                  rw [show (toS r).f2 = r.s from rfl, ← hss] at z2
                  have hfin2 : 0 < rows.length → rV ⟨kd, nn, ss⟩ = true ∧ kd = ty := fun hn => by rw [hkd, hnn, hss]; exact hfin hn
                  have HFIN2 := Aside0.mk hfin2
                  have HLT := Aside0.mk hlt
                  subst eg eo er
                  clear e1 e2 e3 hfin hfin2 hnm hty hkd hnn hss hg hr hol hrl hlt
                  by_cases hn : 0 < rows.length
                  · have pr : (0 < rows.length) = True := eq_true hn
                    obtain ⟨hrv, hkt⟩ := HFIN2.out hn
                    subst hkt
                    have HRV := Aside0.mk hrv
                    have qn : (nm.toList != nm.toList) = false := bne_self_eq_false _
                    have qk : (kd != kd) = false := bne_self_eq_false _
                    clear hrv hn HFIN2
                    go_upto_region 31 with (fail)

                    refine start_ (n := 37) (S := fun w' => w'.cell? (ao.add (k * 3)) = some (.string nm) ∧ w'.cell? ⟨(ag.add (k * 3)).block, (ag.add (k * 3)).off + 2, none⟩ = some (.string nm) ∧ w'.cell? ⟨(ao.add (k * 3)).block, (ao.add (k * 3)).off + 1, none⟩ = some (.int .i64 kd) ∧ w'.cell? (ar.add (k * 3)) = some (.int .i64 kd) ∧ w'.cell? ⟨(ar.add (k * 3)).block, (ar.add (k * 3)).off + 1, none⟩ = some (.int .i64 nn) ∧ w'.cell? ⟨(ar.add (k * 3)).block, (ar.add (k * 3)).off + 2, none⟩ = some (.string ss)) (ds := [32]) #[false, false, false, false, false, false, false, false, false, false, false, false, false, false, false, false, false, false, false, false, false, false, false, false, false, false, false, false, false, false, false, false, false, false, false, false, false] (by kernel_rfl) rfl rfl ⟨y0, x2, y1, z0, z1, z2⟩ (fun hHeld => ?_)
                    refine pure_ (i := 0) (N := some 121) (v := ?_) (a' := ?_) #[true, false, false, false, false, false, false, false, false, false, false, false, false, false, false, false, false, false, false, false, false, false, false, false, false, false, false, false, false, false, false, false, false, false, false, false, false] rfl rfl (by kernel_rfl) (fun _ _ _ h => h) (Or.inl ⟨by rfl, ?_⟩) ?_ ?_
                    rotate_left
                    · intro w'
                      go_simp
                      with_reducible rfl
                    rotate_left
                    · simp only [Act.put, List.setIfInBounds_toArray, List.set_cons_zero, List.set_cons_succ, i64_w, i32_w]
                      rfl
                    refine pure_ (i := 1) (N := some 122) (v := ?_) (a' := ?_) #[true, true, false, false, false, false, false, false, false, false, false, false, false, false, false, false, false, false, false, false, false, false, false, false, false, false, false, false, false, false, false, false, false, false, false, false, false] rfl rfl (by kernel_rfl) (fun _ _ _ h => h) (Or.inl ⟨by rfl, ?_⟩) ?_ ?_
                    rotate_left
                    · intro w'
                      go_simp
                      with_reducible rfl
                    rotate_left
                    · simp only [Act.put, List.setIfInBounds_toArray, List.set_cons_zero, List.set_cons_succ, i64_w, i32_w]
                      rfl
                    refine pure_ (i := 2) (N := some 123) (v := ?_) (a' := ?_) #[true, true, true, false, false, false, false, false, false, false, false, false, false, false, false, false, false, false, false, false, false, false, false, false, false, false, false, false, false, false, false, false, false, false, false, false, false] rfl rfl (by kernel_rfl) (fun _ _ _ h => h) (Or.inl ⟨by rfl, ?_⟩) ?_ ?_
                    rotate_left
                    · intro w'
                      go_simp
                      with_reducible rfl
                    rotate_left
                    · simp only [Act.put, List.setIfInBounds_toArray, List.set_cons_zero, List.set_cons_succ, i64_w, i32_w]
                      rfl
                    refine pure_ (i := 3) (N := some 124) (v := ?_) (a' := ?_) #[true, true, true, true, false, false, false, false, false, false, false, false, false, false, false, false, false, false, false, false, false, false, false, false, false, false, false, false, false, false, false, false, false, false, false, false, false] rfl rfl (by kernel_rfl) (fun _ _ _ h => h) (Or.inl ⟨by rfl, ?_⟩) ?_ ?_
                    rotate_left
                    · intro w'
                      go_simp
                      with_reducible rfl
                    rotate_left
                    · simp only [Act.put, List.setIfInBounds_toArray, List.set_cons_zero, List.set_cons_succ, i64_w, i32_w]
                      rfl
                    refine take_ (i := 4) (N := some 125) (v := ?_) (a' := ?_) #[true, true, true, true, true, false, false, false, false, false, false, false, false, false, false, false, false, false, false, false, false, false, false, false, false, false, false, false, false, false, false, false, false, false, false, false, false] rfl rfl (by kernel_rfl) (fun _ _ _ h => h) (Or.inl ⟨by rfl, ?_⟩) hHeld ?_ ?_
                    rotate_left
                    · rintro w' ⟨s0, s1, s2, s3, s4, s5⟩
                      go_simp
                      with_reducible rfl
                    rotate_left
                    · simp only [Act.put, List.setIfInBounds_toArray, List.set_cons_zero, List.set_cons_succ, i64_w, i32_w]
                      rfl
                    refine pure_ (i := 5) (N := some 126) (v := ?_) (a' := ?_) #[true, true, true, true, true, true, false, false, false, false, false, false, false, false, false, false, false, false, false, false, false, false, false, false, false, false, false, false, false, false, false, false, false, false, false, false, false] rfl rfl (by kernel_rfl) (fun _ _ _ h => h) (Or.inl ⟨by rfl, ?_⟩) ?_ ?_
                    rotate_left
                    · intro w'
                      go_simp
                      with_reducible rfl
                    rotate_left
                    · simp only [Act.put, List.setIfInBounds_toArray, List.set_cons_zero, List.set_cons_succ, i64_w, i32_w]
                      rfl
                    refine pure_ (i := 6) (N := some 127) (v := ?_) (a' := ?_) #[true, true, true, true, true, true, true, false, false, false, false, false, false, false, false, false, false, false, false, false, false, false, false, false, false, false, false, false, false, false, false, false, false, false, false, false, false] rfl rfl (by kernel_rfl) (fun _ _ _ h => h) (Or.inl ⟨by rfl, ?_⟩) ?_ ?_
                    rotate_left
                    · intro w'
                      go_simp
                      with_reducible rfl
                    rotate_left
                    · simp only [Act.put, List.setIfInBounds_toArray, List.set_cons_zero, List.set_cons_succ, i64_w, i32_w]
                      rfl
                    refine pure_ (i := 7) (N := some 128) (v := ?_) (a' := ?_) #[true, true, true, true, true, true, true, true, false, false, false, false, false, false, false, false, false, false, false, false, false, false, false, false, false, false, false, false, false, false, false, false, false, false, false, false, false] rfl rfl (by kernel_rfl) (fun _ _ _ h => h) (Or.inl ⟨by rfl, ?_⟩) ?_ ?_
                    rotate_left
                    · intro w'
                      go_simp
                      with_reducible rfl
                    rotate_left
                    · simp only [Act.put, List.setIfInBounds_toArray, List.set_cons_zero, List.set_cons_succ, i64_w, i32_w]
                      rfl
                    refine pure_ (i := 8) (N := some 129) (v := ?_) (a' := ?_) #[true, true, true, true, true, true, true, true, true, false, false, false, false, false, false, false, false, false, false, false, false, false, false, false, false, false, false, false, false, false, false, false, false, false, false, false, false] rfl rfl (by kernel_rfl) (fun _ _ _ h => h) (Or.inl ⟨by rfl, ?_⟩) ?_ ?_
                    rotate_left
                    · intro w'
                      go_simp
                      with_reducible rfl
                    rotate_left
                    · simp only [Act.put, List.setIfInBounds_toArray, List.set_cons_zero, List.set_cons_succ, i64_w, i32_w]
                      rfl
                    refine take_ (i := 9) (N := some 130) (v := ?_) (a' := ?_) #[true, true, true, true, true, true, true, true, true, true, false, false, false, false, false, false, false, false, false, false, false, false, false, false, false, false, false, false, false, false, false, false, false, false, false, false, false] rfl rfl (by kernel_rfl) (fun _ _ _ h => h) (Or.inl ⟨by rfl, ?_⟩) hHeld ?_ ?_
                    rotate_left
                    · rintro w' ⟨s0, s1, s2, s3, s4, s5⟩
                      go_simp
                      with_reducible rfl
                    rotate_left
                    · simp only [Act.put, List.setIfInBounds_toArray, List.set_cons_zero, List.set_cons_succ, i64_w, i32_w]
                      rfl
                    refine pure_ (i := 10) (N := some 131) (v := ?_) (a' := ?_) #[true, true, true, true, true, true, true, true, true, true, true, false, false, false, false, false, false, false, false, false, false, false, false, false, false, false, false, false, false, false, false, false, false, false, false, false, false] rfl rfl (by kernel_rfl) (fun _ _ _ h => h) (Or.inl ⟨by rfl, ?_⟩) ?_ ?_
                    rotate_left
                    · intro w'
                      go_simp
                      with_reducible rfl
                    rotate_left
                    · simp only [Act.put, List.setIfInBounds_toArray, List.set_cons_zero, List.set_cons_succ, i64_w, i32_w]
                      rfl
                    refine pure_ (i := 11) (N := some 132) (v := ?_) (a' := ?_) #[true, true, true, true, true, true, true, true, true, true, true, true, false, false, false, false, false, false, false, false, false, false, false, false, false, false, false, false, false, false, false, false, false, false, false, false, false] rfl rfl (by kernel_rfl) (fun _ _ _ h => h) (Or.inl ⟨by rfl, ?_⟩) ?_ ?_
                    rotate_left
                    · intro w'
                      go_simp
                      with_reducible rfl
                    rotate_left
                    · simp only [Act.put, List.setIfInBounds_toArray, List.set_cons_zero, List.set_cons_succ, i64_w, i32_w]
                      rfl
                    refine pure_ (i := 12) (N := some 133) (v := ?_) (a' := ?_) #[true, true, true, true, true, true, true, true, true, true, true, true, true, false, false, false, false, false, false, false, false, false, false, false, false, false, false, false, false, false, false, false, false, false, false, false, false] rfl rfl (by kernel_rfl) (fun _ _ _ h => h) (Or.inl ⟨by rfl, ?_⟩) ?_ ?_
                    rotate_left
                    · intro w'
                      go_simp
                      with_reducible rfl
                    rotate_left
                    · simp only [Act.put, List.setIfInBounds_toArray, List.set_cons_zero, List.set_cons_succ, i64_w, i32_w]
                      rfl
                    refine pure_ (i := 13) (N := some 134) (v := ?_) (a' := ?_) #[true, true, true, true, true, true, true, true, true, true, true, true, true, true, false, false, false, false, false, false, false, false, false, false, false, false, false, false, false, false, false, false, false, false, false, false, false] rfl rfl (by kernel_rfl) (fun _ _ _ h => h) (Or.inl ⟨by rfl, ?_⟩) ?_ ?_
                    rotate_left
                    · intro w'
                      go_simp
                      with_reducible rfl
                    rotate_left
                    · simp only [Act.put, List.setIfInBounds_toArray, List.set_cons_zero, List.set_cons_succ, i64_w, i32_w]
                      rfl
                    refine pure_ (i := 14) (N := some 135) (v := ?_) (a' := ?_) #[true, true, true, true, true, true, true, true, true, true, true, true, true, true, true, false, false, false, false, false, false, false, false, false, false, false, false, false, false, false, false, false, false, false, false, false, false] rfl rfl (by kernel_rfl) (fun _ _ _ h => h) (Or.inl ⟨by rfl, ?_⟩) ?_ ?_
                    rotate_left
                    · intro w'
                      go_simp
                      with_reducible rfl
                    rotate_left
                    · simp only [Act.put, List.setIfInBounds_toArray, List.set_cons_zero, List.set_cons_succ, i64_w, i32_w]
                      rfl
                    refine pure_ (i := 15) (N := some 136) (v := ?_) (a' := ?_) #[true, true, true, true, true, true, true, true, true, true, true, true, true, true, true, true, false, false, false, false, false, false, false, false, false, false, false, false, false, false, false, false, false, false, false, false, false] rfl rfl (by kernel_rfl) (fun _ _ _ h => h) (Or.inl ⟨by rfl, ?_⟩) ?_ ?_
                    rotate_left
                    · intro w'
                      go_simp
                      with_reducible rfl
                    rotate_left
                    · simp only [Act.put, List.setIfInBounds_toArray, List.set_cons_zero, List.set_cons_succ, i64_w, i32_w]
                      rfl
                    refine pure_ (i := 16) (N := some 137) (v := ?_) (a' := ?_) #[true, true, true, true, true, true, true, true, true, true, true, true, true, true, true, true, true, false, false, false, false, false, false, false, false, false, false, false, false, false, false, false, false, false, false, false, false] rfl rfl (by kernel_rfl) (fun _ _ _ h => h) (Or.inl ⟨by rfl, ?_⟩) ?_ ?_
                    rotate_left
                    · intro w'
                      go_simp
                      with_reducible rfl
                    rotate_left
                    · simp only [Act.put, List.setIfInBounds_toArray, List.set_cons_zero, List.set_cons_succ, i64_w, i32_w]
                      rfl
                    refine pure_ (i := 17) (N := some 138) (v := ?_) (a' := ?_) #[true, true, true, true, true, true, true, true, true, true, true, true, true, true, true, true, true, true, false, false, false, false, false, false, false, false, false, false, false, false, false, false, false, false, false, false, false] rfl rfl (by kernel_rfl) (fun _ _ _ h => h) (Or.inl ⟨by rfl, ?_⟩) ?_ ?_
                    rotate_left
                    · intro w'
                      go_simp
                      with_reducible rfl
                    rotate_left
                    · simp only [Act.put, List.setIfInBounds_toArray, List.set_cons_zero, List.set_cons_succ, i64_w, i32_w]
                      rfl
                    refine pure_ (i := 18) (N := some 139) (v := ?_) (a' := ?_) #[true, true, true, true, true, true, true, true, true, true, true, true, true, true, true, true, true, true, true, false, false, false, false, false, false, false, false, false, false, false, false, false, false, false, false, false, false] rfl rfl (by kernel_rfl) (fun _ _ _ h => h) (Or.inl ⟨by rfl, ?_⟩) ?_ ?_
                    rotate_left
                    · intro w'
                      go_simp
                      with_reducible rfl
                    rotate_left
                    · simp only [Act.put, List.setIfInBounds_toArray, List.set_cons_zero, List.set_cons_succ, i64_w, i32_w]
                      rfl
                    refine pure_ (i := 19) (N := some 140) (v := ?_) (a' := ?_) #[true, true, true, true, true, true, true, true, true, true, true, true, true, true, true, true, true, true, true, true, false, false, false, false, false, false, false, false, false, false, false, false, false, false, false, false, false] rfl rfl (by kernel_rfl) (fun _ _ _ h => h) (Or.inl ⟨by rfl, ?_⟩) ?_ ?_
                    rotate_left
                    · intro w'
                      go_simp
                      with_reducible rfl
                    rotate_left
                    · simp only [Act.put, List.setIfInBounds_toArray, List.set_cons_zero, List.set_cons_succ, i64_w, i32_w]
                      rfl
                    refine take_ (i := 20) (N := some 141) (v := ?_) (a' := ?_) #[true, true, true, true, true, true, true, true, true, true, true, true, true, true, true, true, true, true, true, true, true, false, false, false, false, false, false, false, false, false, false, false, false, false, false, false, false] rfl rfl (by kernel_rfl) (fun _ _ _ h => h) (Or.inl ⟨by rfl, ?_⟩) hHeld ?_ ?_
                    rotate_left
                    · rintro w' ⟨s0, s1, s2, s3, s4, s5⟩
                      go_simp
                      with_reducible rfl
                    rotate_left
                    · simp only [Act.put, List.setIfInBounds_toArray, List.set_cons_zero, List.set_cons_succ, i64_w, i32_w]
                      rfl
                    refine pure_ (i := 21) (N := some 142) (v := ?_) (a' := ?_) #[true, true, true, true, true, true, true, true, true, true, true, true, true, true, true, true, true, true, true, true, true, true, false, false, false, false, false, false, false, false, false, false, false, false, false, false, false] rfl rfl (by kernel_rfl) (fun _ _ _ h => h) (Or.inl ⟨by rfl, ?_⟩) ?_ ?_
                    rotate_left
                    · intro w'
                      go_simp
                      with_reducible rfl
                    rotate_left
                    · simp only [Act.put, List.setIfInBounds_toArray, List.set_cons_zero, List.set_cons_succ, i64_w, i32_w]
                      rfl
                    refine pure_ (i := 22) (N := some 143) (v := ?_) (a' := ?_) #[true, true, true, true, true, true, true, true, true, true, true, true, true, true, true, true, true, true, true, true, true, true, true, false, false, false, false, false, false, false, false, false, false, false, false, false, false] rfl rfl (by kernel_rfl) (fun _ _ _ h => h) (Or.inl ⟨by rfl, ?_⟩) ?_ ?_
                    rotate_left
                    · intro w'
                      go_simp
                      with_reducible rfl
                    rotate_left
                    · simp only [Act.put, List.setIfInBounds_toArray, List.set_cons_zero, List.set_cons_succ, i64_w, i32_w]
                      rfl
                    refine pure_ (i := 23) (N := some 144) (v := ?_) (a' := ?_) #[true, true, true, true, true, true, true, true, true, true, true, true, true, true, true, true, true, true, true, true, true, true, true, true, false, false, false, false, false, false, false, false, false, false, false, false, false] rfl rfl (by kernel_rfl) (fun _ _ _ h => h) (Or.inl ⟨by rfl, ?_⟩) ?_ ?_
                    rotate_left
                    · intro w'
                      go_simp
                      with_reducible rfl
                    rotate_left
                    · simp only [Act.put, List.setIfInBounds_toArray, List.set_cons_zero, List.set_cons_succ, i64_w, i32_w]
                      rfl
                    refine pure_ (i := 24) (N := some 145) (v := ?_) (a' := ?_) #[true, true, true, true, true, true, true, true, true, true, true, true, true, true, true, true, true, true, true, true, true, true, true, true, true, false, false, false, false, false, false, false, false, false, false, false, false] rfl rfl (by kernel_rfl) (fun _ _ _ h => h) (Or.inl ⟨by rfl, ?_⟩) ?_ ?_
                    rotate_left
                    · intro w'
                      go_simp
                      with_reducible rfl
                    rotate_left
                    · simp only [Act.put, List.setIfInBounds_toArray, List.set_cons_zero, List.set_cons_succ, i64_w, i32_w]
                      rfl
                    refine take_ (i := 25) (N := some 146) (v := ?_) (a' := ?_) #[true, true, true, true, true, true, true, true, true, true, true, true, true, true, true, true, true, true, true, true, true, true, true, true, true, true, false, false, false, false, false, false, false, false, false, false, false] rfl rfl (by kernel_rfl) (fun _ _ _ h => h) (Or.inl ⟨by rfl, ?_⟩) hHeld ?_ ?_
                    rotate_left
                    · rintro w' ⟨s0, s1, s2, s3, s4, s5⟩
                      go_simp
                      with_reducible rfl
                    rotate_left
                    · simp only [Act.put, List.setIfInBounds_toArray, List.set_cons_zero, List.set_cons_succ, i64_w, i32_w]
                      rfl
                    refine pure_ (i := 26) (N := some 147) (v := ?_) (a' := ?_) #[true, true, true, true, true, true, true, true, true, true, true, true, true, true, true, true, true, true, true, true, true, true, true, true, true, true, true, false, false, false, false, false, false, false, false, false, false] rfl rfl (by kernel_rfl) (fun _ _ _ h => h) (Or.inl ⟨by rfl, ?_⟩) ?_ ?_
                    rotate_left
                    · intro w'
                      go_simp
                      with_reducible rfl
                    rotate_left
                    · simp only [Act.put, List.setIfInBounds_toArray, List.set_cons_zero, List.set_cons_succ, i64_w, i32_w]
                      rfl
                    refine pure_ (i := 27) (N := some 148) (v := ?_) (a' := ?_) #[true, true, true, true, true, true, true, true, true, true, true, true, true, true, true, true, true, true, true, true, true, true, true, true, true, true, true, true, false, false, false, false, false, false, false, false, false] rfl rfl (by kernel_rfl) (fun _ _ _ h => h) (Or.inl ⟨by rfl, ?_⟩) ?_ ?_
                    rotate_left
                    · intro w'
                      go_simp
                      with_reducible rfl
                    rotate_left
                    · simp only [Act.put, List.setIfInBounds_toArray, List.set_cons_zero, List.set_cons_succ, i64_w, i32_w]
                      rfl
                    refine pure_ (i := 28) (N := some 149) (v := ?_) (a' := ?_) #[true, true, true, true, true, true, true, true, true, true, true, true, true, true, true, true, true, true, true, true, true, true, true, true, true, true, true, true, true, false, false, false, false, false, false, false, false] rfl rfl (by kernel_rfl) (fun _ _ _ h => h) (Or.inl ⟨by rfl, ?_⟩) ?_ ?_
                    rotate_left
                    · intro w'
                      go_simp
                      with_reducible rfl
                    rotate_left
                    · simp only [Act.put, List.setIfInBounds_toArray, List.set_cons_zero, List.set_cons_succ, i64_w, i32_w]
                      rfl
                    refine pure_ (i := 29) (N := some 150) (v := ?_) (a' := ?_) #[true, true, true, true, true, true, true, true, true, true, true, true, true, true, true, true, true, true, true, true, true, true, true, true, true, true, true, true, true, true, false, false, false, false, false, false, false] rfl rfl (by kernel_rfl) (fun _ _ _ h => h) (Or.inl ⟨by rfl, ?_⟩) ?_ ?_
                    rotate_left
                    · intro w'
                      go_simp
                      with_reducible rfl
                    rotate_left
                    · simp only [Act.put, List.setIfInBounds_toArray, List.set_cons_zero, List.set_cons_succ, i64_w, i32_w]
                      rfl
                    refine pure_ (i := 30) (N := some 151) (v := ?_) (a' := ?_) #[true, true, true, true, true, true, true, true, true, true, true, true, true, true, true, true, true, true, true, true, true, true, true, true, true, true, true, true, true, true, true, false, false, false, false, false, false] rfl rfl (by kernel_rfl) (fun _ _ _ h => h) (Or.inl ⟨by rfl, ?_⟩) ?_ ?_
                    rotate_left
                    · intro w'
                      go_simp
                      with_reducible rfl
                    rotate_left
                    · simp only [Act.put, List.setIfInBounds_toArray, List.set_cons_zero, List.set_cons_succ, i64_w, i32_w]
                      rfl
                    refine take_ (i := 31) (N := some 152) (v := ?_) (a' := ?_) #[true, true, true, true, true, true, true, true, true, true, true, true, true, true, true, true, true, true, true, true, true, true, true, true, true, true, true, true, true, true, true, true, false, false, false, false, false] rfl rfl (by kernel_rfl) (fun _ _ _ h => h) (Or.inl ⟨by rfl, ?_⟩) hHeld ?_ ?_
                    rotate_left
                    · rintro w' ⟨s0, s1, s2, s3, s4, s5⟩
                      go_simp
                      with_reducible rfl
                    rotate_left
                    · simp only [Act.put, List.setIfInBounds_toArray, List.set_cons_zero, List.set_cons_succ, i64_w, i32_w]
                      rfl
                    refine last_ (i := 32) (N := some 153) #[true, true, true, true, true, true, true, true, true, true, true, true, true, true, true, true, true, true, true, true, true, true, true, true, true, true, true, true, true, true, true, true, true, false, false, false, false] rfl rfl (by kernel_rfl) (by decide) (fun K hK => ?_)
                    refine goes_ Try.func12 (by kernel_rfl) rfl #[.agg #[.int .i64 kd, .int .i64 nn, .string ss]] (by rfl) rfl rfl (by (try simp only [List.map_toArray, List.map_cons, List.map_nil]); first | done | rfl) ?_
                    refine (right_calls ⟨kd, nn, ss⟩ _).mono ?_
                    rintro e wz ⟨rfl, hbz⟩
                    refine ⟨_, rfl, ?_⟩
                    rw [HRV.out]
                    have HBZ := Aside0.mk hbz
                    clear hbz
                    refine hK.out _ _ ?_
                    clear hK K
                    refine norm_ (a' := ?_) ?_ ?_
                    rotate_left
                    · show Act.put _ (some 153) _ = _
                      simp only [Act.put, List.setIfInBounds_toArray, List.set_cons_zero, List.set_cons_succ, i64_w, i32_w]
                      rfl
                    refine pure_ (i := 33) (N := some 154) (v := ?_) (a' := ?_) #[true, true, true, true, true, true, true, true, true, true, true, true, true, true, true, true, true, true, true, true, true, true, true, true, true, true, true, true, true, true, true, true, true, true, false, false, false] rfl rfl (by kernel_rfl) (fun _ _ _ h => h) (Or.inl ⟨by rfl, ?_⟩) ?_ ?_
                    rotate_left
                    · intro w'
                      go_simp
                      with_reducible rfl
                    rotate_left
                    · simp only [Act.put, List.setIfInBounds_toArray, List.set_cons_zero, List.set_cons_succ, i64_w, i32_w]
                      rfl
                    refine pure_ (i := 34) (N := some 155) (v := ?_) (a' := ?_) #[true, true, true, true, true, true, true, true, true, true, true, true, true, true, true, true, true, true, true, true, true, true, true, true, true, true, true, true, true, true, true, true, true, true, true, false, false] rfl rfl (by kernel_rfl) (fun _ _ _ h => h) (Or.inl ⟨by rfl, ?_⟩) ?_ ?_
                    rotate_left
                    · intro w'
                      go_simp
                      with_reducible rfl
                    rotate_left
                    · simp only [Act.put, List.setIfInBounds_toArray, List.set_cons_zero, List.set_cons_succ, i64_w, i32_w]
                      rfl
                    refine pure_ (i := 35) (N := some 156) (v := ?_) (a' := ?_) #[true, true, true, true, true, true, true, true, true, true, true, true, true, true, true, true, true, true, true, true, true, true, true, true, true, true, true, true, true, true, true, true, true, true, true, true, false] rfl rfl (by kernel_rfl) (fun _ _ _ h => h) (Or.inl ⟨by rfl, ?_⟩) ?_ ?_
                    rotate_left
                    · intro w'
                      go_simp
                      with_reducible rfl
                    rotate_left
                    · simp only [Act.put, List.setIfInBounds_toArray, List.set_cons_zero, List.set_cons_succ, i64_w, i32_w]
                      rfl
                    refine pure_ (i := 36) (N := some 157) (v := ?_) (a' := ?_) #[true, true, true, true, true, true, true, true, true, true, true, true, true, true, true, true, true, true, true, true, true, true, true, true, true, true, true, true, true, true, true, true, true, true, true, true, true] rfl rfl (by kernel_rfl) (fun _ _ _ h => h) (Or.inl ⟨by rfl, ?_⟩) ?_ ?_
                    rotate_left
                    · intro w'
                      go_simp
                      with_reducible rfl
                    rotate_left
                    · simp only [Act.put, List.setIfInBounds_toArray, List.set_cons_zero, List.set_cons_succ, i64_w, i32_w]
                      rfl
                    refine done_ (by kernel_rfl) ?_
                    go_wp2
                    go_roundw
                    case rel => exact ⟨k + 1, HLT.out, by go_num, ⟨below_step (below_drew HB9.out) HBZ.out⟩⟩
                    case measure => have := HLT.out; simp [intOf] <;> omega
                  · have pr : (0 < rows.length) = False := eq_false hn
                    have qn : (nm.toList != nm.toList) = false := bne_self_eq_false _
                    clear hn HFIN2
                    go_upto_region 31 with (fail)
                    refine start_ (n := 37) (S := fun w' => w'.cell? (ao.add (k * 3)) = some (.string nm) ∧ w'.cell? ⟨(ag.add (k * 3)).block, (ag.add (k * 3)).off + 2, none⟩ = some (.string nm)) (ds := [32]) #[false, false, false, false, false, false, false, false, false, false, false, false, false, false, false, false, false, false, false, false, false, false, false, false, false, false, false, false, false, false, false, false, false, false, false, false, false] (by kernel_rfl) rfl rfl ⟨y0, x2⟩ (fun hHeld => ?_)
                    refine pure_ (i := 0) (N := some 121) (v := ?_) (a' := ?_) #[true, false, false, false, false, false, false, false, false, false, false, false, false, false, false, false, false, false, false, false, false, false, false, false, false, false, false, false, false, false, false, false, false, false, false, false, false] rfl rfl (by kernel_rfl) (fun _ _ _ h => h) (Or.inl ⟨by rfl, ?_⟩) ?_ ?_
                    rotate_left
                    · intro w'
                      go_simp
                      with_reducible rfl
                    rotate_left
                    · simp only [Act.put, List.setIfInBounds_toArray, List.set_cons_zero, List.set_cons_succ, i64_w, i32_w]
                      rfl
                    refine pure_ (i := 1) (N := some 122) (v := ?_) (a' := ?_) #[true, true, false, false, false, false, false, false, false, false, false, false, false, false, false, false, false, false, false, false, false, false, false, false, false, false, false, false, false, false, false, false, false, false, false, false, false] rfl rfl (by kernel_rfl) (fun _ _ _ h => h) (Or.inl ⟨by rfl, ?_⟩) ?_ ?_
                    rotate_left
                    · intro w'
                      go_simp
                      with_reducible rfl
                    rotate_left
                    · simp only [Act.put, List.setIfInBounds_toArray, List.set_cons_zero, List.set_cons_succ, i64_w, i32_w]
                      rfl
                    refine pure_ (i := 2) (N := some 123) (v := ?_) (a' := ?_) #[true, true, true, false, false, false, false, false, false, false, false, false, false, false, false, false, false, false, false, false, false, false, false, false, false, false, false, false, false, false, false, false, false, false, false, false, false] rfl rfl (by kernel_rfl) (fun _ _ _ h => h) (Or.inl ⟨by rfl, ?_⟩) ?_ ?_
                    rotate_left
                    · intro w'
                      go_simp
                      with_reducible rfl
                    rotate_left
                    · simp only [Act.put, List.setIfInBounds_toArray, List.set_cons_zero, List.set_cons_succ, i64_w, i32_w]
                      rfl
                    refine pure_ (i := 3) (N := some 124) (v := ?_) (a' := ?_) #[true, true, true, true, false, false, false, false, false, false, false, false, false, false, false, false, false, false, false, false, false, false, false, false, false, false, false, false, false, false, false, false, false, false, false, false, false] rfl rfl (by kernel_rfl) (fun _ _ _ h => h) (Or.inl ⟨by rfl, ?_⟩) ?_ ?_
                    rotate_left
                    · intro w'
                      go_simp
                      with_reducible rfl
                    rotate_left
                    · simp only [Act.put, List.setIfInBounds_toArray, List.set_cons_zero, List.set_cons_succ, i64_w, i32_w]
                      rfl
                    refine take_ (i := 4) (N := some 125) (v := ?_) (a' := ?_) #[true, true, true, true, true, false, false, false, false, false, false, false, false, false, false, false, false, false, false, false, false, false, false, false, false, false, false, false, false, false, false, false, false, false, false, false, false] rfl rfl (by kernel_rfl) (fun _ _ _ h => h) (Or.inl ⟨by rfl, ?_⟩) hHeld ?_ ?_
                    rotate_left
                    · rintro w' ⟨s0, s1⟩
                      go_simp
                      with_reducible rfl
                    rotate_left
                    · simp only [Act.put, List.setIfInBounds_toArray, List.set_cons_zero, List.set_cons_succ, i64_w, i32_w]
                      rfl
                    refine pure_ (i := 5) (N := some 126) (v := ?_) (a' := ?_) #[true, true, true, true, true, true, false, false, false, false, false, false, false, false, false, false, false, false, false, false, false, false, false, false, false, false, false, false, false, false, false, false, false, false, false, false, false] rfl rfl (by kernel_rfl) (fun _ _ _ h => h) (Or.inl ⟨by rfl, ?_⟩) ?_ ?_
                    rotate_left
                    · intro w'
                      go_simp
                      with_reducible rfl
                    rotate_left
                    · simp only [Act.put, List.setIfInBounds_toArray, List.set_cons_zero, List.set_cons_succ, i64_w, i32_w]
                      rfl
                    refine pure_ (i := 6) (N := some 127) (v := ?_) (a' := ?_) #[true, true, true, true, true, true, true, false, false, false, false, false, false, false, false, false, false, false, false, false, false, false, false, false, false, false, false, false, false, false, false, false, false, false, false, false, false] rfl rfl (by kernel_rfl) (fun _ _ _ h => h) (Or.inl ⟨by rfl, ?_⟩) ?_ ?_
                    rotate_left
                    · intro w'
                      go_simp
                      with_reducible rfl
                    rotate_left
                    · simp only [Act.put, List.setIfInBounds_toArray, List.set_cons_zero, List.set_cons_succ, i64_w, i32_w]
                      rfl
                    refine pure_ (i := 7) (N := some 128) (v := ?_) (a' := ?_) #[true, true, true, true, true, true, true, true, false, false, false, false, false, false, false, false, false, false, false, false, false, false, false, false, false, false, false, false, false, false, false, false, false, false, false, false, false] rfl rfl (by kernel_rfl) (fun _ _ _ h => h) (Or.inl ⟨by rfl, ?_⟩) ?_ ?_
                    rotate_left
                    · intro w'
                      go_simp
                      with_reducible rfl
                    rotate_left
                    · simp only [Act.put, List.setIfInBounds_toArray, List.set_cons_zero, List.set_cons_succ, i64_w, i32_w]
                      rfl
                    refine pure_ (i := 8) (N := some 129) (v := ?_) (a' := ?_) #[true, true, true, true, true, true, true, true, true, false, false, false, false, false, false, false, false, false, false, false, false, false, false, false, false, false, false, false, false, false, false, false, false, false, false, false, false] rfl rfl (by kernel_rfl) (fun _ _ _ h => h) (Or.inl ⟨by rfl, ?_⟩) ?_ ?_
                    rotate_left
                    · intro w'
                      go_simp
                      with_reducible rfl
                    rotate_left
                    · simp only [Act.put, List.setIfInBounds_toArray, List.set_cons_zero, List.set_cons_succ, i64_w, i32_w]
                      rfl
                    refine take_ (i := 9) (N := some 130) (v := ?_) (a' := ?_) #[true, true, true, true, true, true, true, true, true, true, false, false, false, false, false, false, false, false, false, false, false, false, false, false, false, false, false, false, false, false, false, false, false, false, false, false, false] rfl rfl (by kernel_rfl) (fun _ _ _ h => h) (Or.inl ⟨by rfl, ?_⟩) hHeld ?_ ?_
                    rotate_left
                    · rintro w' ⟨s0, s1⟩
                      go_simp
                      with_reducible rfl
                    rotate_left
                    · simp only [Act.put, List.setIfInBounds_toArray, List.set_cons_zero, List.set_cons_succ, i64_w, i32_w]
                      rfl
                    refine pure_ (i := 10) (N := some 131) (v := ?_) (a' := ?_) #[true, true, true, true, true, true, true, true, true, true, true, false, false, false, false, false, false, false, false, false, false, false, false, false, false, false, false, false, false, false, false, false, false, false, false, false, false] rfl rfl (by kernel_rfl) (fun _ _ _ h => h) (Or.inl ⟨by rfl, ?_⟩) ?_ ?_
                    rotate_left
                    · intro w'
                      go_simp
                      with_reducible rfl
                    rotate_left
                    · simp only [Act.put, List.setIfInBounds_toArray, List.set_cons_zero, List.set_cons_succ, i64_w, i32_w]
                      rfl
                    refine pure_ (i := 11) (N := some 132) (v := ?_) (a' := ?_) #[true, true, true, true, true, true, true, true, true, true, true, true, false, false, false, false, false, false, false, false, false, false, false, false, false, false, false, false, false, false, false, false, false, false, false, false, false] rfl rfl (by kernel_rfl) (fun _ _ _ h => h) (Or.inl ⟨by rfl, ?_⟩) ?_ ?_
                    rotate_left
                    · intro w'
                      go_simp
                      with_reducible rfl
                    rotate_left
                    · simp only [Act.put, List.setIfInBounds_toArray, List.set_cons_zero, List.set_cons_succ, i64_w, i32_w]
                      rfl
                    refine pure_ (i := 12) (N := some 133) (v := ?_) (a' := ?_) #[true, true, true, true, true, true, true, true, true, true, true, true, true, false, false, false, false, false, false, false, false, false, false, false, false, false, false, false, false, false, false, false, false, false, false, false, false] rfl rfl (by kernel_rfl) (fun _ _ _ h => h) (Or.inl ⟨by rfl, ?_⟩) ?_ ?_
                    rotate_left
                    · intro w'
                      go_simp
                      with_reducible rfl
                    rotate_left
                    · simp only [Act.put, List.setIfInBounds_toArray, List.set_cons_zero, List.set_cons_succ, i64_w, i32_w]
                      rfl
                    refine pure_ (i := 13) (N := some 134) (v := ?_) (a' := ?_) #[true, true, true, true, true, true, true, true, true, true, true, true, true, true, false, false, false, false, false, false, false, false, false, false, false, false, false, false, false, false, false, false, false, false, false, false, false] rfl rfl (by kernel_rfl) (fun _ _ _ h => h) (Or.inl ⟨by rfl, ?_⟩) ?_ ?_
                    rotate_left
                    · intro w'
                      go_simp
                      with_reducible rfl
                    rotate_left
                    · simp only [Act.put, List.setIfInBounds_toArray, List.set_cons_zero, List.set_cons_succ, i64_w, i32_w]
                      rfl
                    refine pure_ (i := 14) (N := some 135) (v := ?_) (a' := ?_) #[true, true, true, true, true, true, true, true, true, true, true, true, true, true, true, false, false, false, false, false, false, false, false, false, false, false, false, false, false, false, false, false, false, false, false, false, false] rfl rfl (by kernel_rfl) (fun _ _ _ h => h) (Or.inl ⟨by rfl, ?_⟩) ?_ ?_
                    rotate_left
                    · intro w'
                      go_simp
                      with_reducible rfl
                    rotate_left
                    · simp only [Act.put, List.setIfInBounds_toArray, List.set_cons_zero, List.set_cons_succ, i64_w, i32_w]
                      rfl
                    refine pure_ (i := 15) (N := some 136) (v := ?_) (a' := ?_) #[true, true, true, true, true, true, true, true, true, true, true, true, true, true, true, true, false, false, false, false, false, false, false, false, false, false, false, false, false, false, false, false, false, false, false, false, false] rfl rfl (by kernel_rfl) (fun _ _ _ h => h) (Or.inl ⟨by rfl, ?_⟩) ?_ ?_
                    rotate_left
                    · intro w'
                      go_simp
                      with_reducible rfl
                    rotate_left
                    · simp only [Act.put, List.setIfInBounds_toArray, List.set_cons_zero, List.set_cons_succ, i64_w, i32_w]
                      rfl
                    refine pure_ (i := 16) (N := some 137) (v := undef) (a' := ?_) #[true, true, true, true, true, true, true, true, true, true, true, true, true, true, true, true, true, false, false, false, false, false, false, false, false, false, false, false, false, false, false, false, false, false, false, false, false] rfl rfl (by kernel_rfl) (fun _ _ _ h => h) (Or.inr ⟨by rfl, rfl⟩) ?_ ?_
                    rotate_left
                    · simp only [Act.put, List.setIfInBounds_toArray, List.set_cons_zero, List.set_cons_succ, i64_w, i32_w]
                      rfl
                    refine pure_ (i := 17) (N := some 138) (v := undef) (a' := ?_) #[true, true, true, true, true, true, true, true, true, true, true, true, true, true, true, true, true, true, false, false, false, false, false, false, false, false, false, false, false, false, false, false, false, false, false, false, false] rfl rfl (by kernel_rfl) (fun _ _ _ h => h) (Or.inr ⟨by rfl, rfl⟩) ?_ ?_
                    rotate_left
                    · simp only [Act.put, List.setIfInBounds_toArray, List.set_cons_zero, List.set_cons_succ, i64_w, i32_w]
                      rfl
                    refine pure_ (i := 18) (N := some 139) (v := undef) (a' := ?_) #[true, true, true, true, true, true, true, true, true, true, true, true, true, true, true, true, true, true, true, false, false, false, false, false, false, false, false, false, false, false, false, false, false, false, false, false, false] rfl rfl (by kernel_rfl) (fun _ _ _ h => h) (Or.inr ⟨by rfl, rfl⟩) ?_ ?_
                    rotate_left
                    · simp only [Act.put, List.setIfInBounds_toArray, List.set_cons_zero, List.set_cons_succ, i64_w, i32_w]
                      rfl
                    refine pure_ (i := 19) (N := some 140) (v := undef) (a' := ?_) #[true, true, true, true, true, true, true, true, true, true, true, true, true, true, true, true, true, true, true, true, false, false, false, false, false, false, false, false, false, false, false, false, false, false, false, false, false] rfl rfl (by kernel_rfl) (fun _ _ _ h => h) (Or.inr ⟨by rfl, rfl⟩) ?_ ?_
                    rotate_left
                    · simp only [Act.put, List.setIfInBounds_toArray, List.set_cons_zero, List.set_cons_succ, i64_w, i32_w]
                      rfl
                    refine take_ (i := 20) (N := some 141) (v := undef) (a' := ?_) #[true, true, true, true, true, true, true, true, true, true, true, true, true, true, true, true, true, true, true, true, true, false, false, false, false, false, false, false, false, false, false, false, false, false, false, false, false] rfl rfl (by kernel_rfl) (fun _ _ _ h => h) (Or.inr ⟨by rfl, rfl⟩) hHeld ?_ ?_
                    rotate_left
                    · simp only [Act.put, List.setIfInBounds_toArray, List.set_cons_zero, List.set_cons_succ, i64_w, i32_w]
                      rfl
                    refine pure_ (i := 21) (N := some 142) (v := undef) (a' := ?_) #[true, true, true, true, true, true, true, true, true, true, true, true, true, true, true, true, true, true, true, true, true, true, false, false, false, false, false, false, false, false, false, false, false, false, false, false, false] rfl rfl (by kernel_rfl) (fun _ _ _ h => h) (Or.inr ⟨by rfl, rfl⟩) ?_ ?_
                    rotate_left
                    · simp only [Act.put, List.setIfInBounds_toArray, List.set_cons_zero, List.set_cons_succ, i64_w, i32_w]
                      rfl
                    refine pure_ (i := 22) (N := some 143) (v := undef) (a' := ?_) #[true, true, true, true, true, true, true, true, true, true, true, true, true, true, true, true, true, true, true, true, true, true, true, false, false, false, false, false, false, false, false, false, false, false, false, false, false] rfl rfl (by kernel_rfl) (fun _ _ _ h => h) (Or.inr ⟨by rfl, rfl⟩) ?_ ?_
                    rotate_left
                    · simp only [Act.put, List.setIfInBounds_toArray, List.set_cons_zero, List.set_cons_succ, i64_w, i32_w]
                      rfl
                    refine pure_ (i := 23) (N := some 144) (v := undef) (a' := ?_) #[true, true, true, true, true, true, true, true, true, true, true, true, true, true, true, true, true, true, true, true, true, true, true, true, false, false, false, false, false, false, false, false, false, false, false, false, false] rfl rfl (by kernel_rfl) (fun _ _ _ h => h) (Or.inr ⟨by rfl, rfl⟩) ?_ ?_
                    rotate_left
                    · simp only [Act.put, List.setIfInBounds_toArray, List.set_cons_zero, List.set_cons_succ, i64_w, i32_w]
                      rfl
                    refine pure_ (i := 24) (N := some 145) (v := undef) (a' := ?_) #[true, true, true, true, true, true, true, true, true, true, true, true, true, true, true, true, true, true, true, true, true, true, true, true, true, false, false, false, false, false, false, false, false, false, false, false, false] rfl rfl (by kernel_rfl) (fun _ _ _ h => h) (Or.inr ⟨by rfl, rfl⟩) ?_ ?_
                    rotate_left
                    · simp only [Act.put, List.setIfInBounds_toArray, List.set_cons_zero, List.set_cons_succ, i64_w, i32_w]
                      rfl
                    refine take_ (i := 25) (N := some 146) (v := undef) (a' := ?_) #[true, true, true, true, true, true, true, true, true, true, true, true, true, true, true, true, true, true, true, true, true, true, true, true, true, true, false, false, false, false, false, false, false, false, false, false, false] rfl rfl (by kernel_rfl) (fun _ _ _ h => h) (Or.inr ⟨by rfl, rfl⟩) hHeld ?_ ?_
                    rotate_left
                    · simp only [Act.put, List.setIfInBounds_toArray, List.set_cons_zero, List.set_cons_succ, i64_w, i32_w]
                      rfl
                    refine pure_ (i := 26) (N := some 147) (v := undef) (a' := ?_) #[true, true, true, true, true, true, true, true, true, true, true, true, true, true, true, true, true, true, true, true, true, true, true, true, true, true, true, false, false, false, false, false, false, false, false, false, false] rfl rfl (by kernel_rfl) (fun _ _ _ h => h) (Or.inr ⟨by rfl, rfl⟩) ?_ ?_
                    rotate_left
                    · simp only [Act.put, List.setIfInBounds_toArray, List.set_cons_zero, List.set_cons_succ, i64_w, i32_w]
                      rfl
                    refine pure_ (i := 27) (N := some 148) (v := undef) (a' := ?_) #[true, true, true, true, true, true, true, true, true, true, true, true, true, true, true, true, true, true, true, true, true, true, true, true, true, true, true, true, false, false, false, false, false, false, false, false, false] rfl rfl (by kernel_rfl) (fun _ _ _ h => h) (Or.inr ⟨by rfl, rfl⟩) ?_ ?_
                    rotate_left
                    · simp only [Act.put, List.setIfInBounds_toArray, List.set_cons_zero, List.set_cons_succ, i64_w, i32_w]
                      rfl
                    refine pure_ (i := 28) (N := some 149) (v := undef) (a' := ?_) #[true, true, true, true, true, true, true, true, true, true, true, true, true, true, true, true, true, true, true, true, true, true, true, true, true, true, true, true, true, false, false, false, false, false, false, false, false] rfl rfl (by kernel_rfl) (fun _ _ _ h => h) (Or.inr ⟨by rfl, rfl⟩) ?_ ?_
                    rotate_left
                    · simp only [Act.put, List.setIfInBounds_toArray, List.set_cons_zero, List.set_cons_succ, i64_w, i32_w]
                      rfl
                    refine pure_ (i := 29) (N := some 150) (v := undef) (a' := ?_) #[true, true, true, true, true, true, true, true, true, true, true, true, true, true, true, true, true, true, true, true, true, true, true, true, true, true, true, true, true, true, false, false, false, false, false, false, false] rfl rfl (by kernel_rfl) (fun _ _ _ h => h) (Or.inr ⟨by rfl, rfl⟩) ?_ ?_
                    rotate_left
                    · simp only [Act.put, List.setIfInBounds_toArray, List.set_cons_zero, List.set_cons_succ, i64_w, i32_w]
                      rfl
                    refine pure_ (i := 30) (N := some 151) (v := undef) (a' := ?_) #[true, true, true, true, true, true, true, true, true, true, true, true, true, true, true, true, true, true, true, true, true, true, true, true, true, true, true, true, true, true, true, false, false, false, false, false, false] rfl rfl (by kernel_rfl) (fun _ _ _ h => h) (Or.inr ⟨by rfl, rfl⟩) ?_ ?_
                    rotate_left
                    · simp only [Act.put, List.setIfInBounds_toArray, List.set_cons_zero, List.set_cons_succ, i64_w, i32_w]
                      rfl
                    refine take_ (i := 31) (N := some 152) (v := undef) (a' := ?_) #[true, true, true, true, true, true, true, true, true, true, true, true, true, true, true, true, true, true, true, true, true, true, true, true, true, true, true, true, true, true, true, true, false, false, false, false, false] rfl rfl (by kernel_rfl) (fun _ _ _ h => h) (Or.inr ⟨by rfl, rfl⟩) hHeld ?_ ?_
                    rotate_left
                    · simp only [Act.put, List.setIfInBounds_toArray, List.set_cons_zero, List.set_cons_succ, i64_w, i32_w]
                      rfl
                    refine last_ (i := 32) (N := some 153) #[true, true, true, true, true, true, true, true, true, true, true, true, true, true, true, true, true, true, true, true, true, true, true, true, true, true, true, true, true, true, true, true, true, false, false, false, false] rfl rfl (by kernel_rfl) (by decide) (fun K hK => ?_)
                    refine off_ (by rfl) ?_
                    refine hK.out _ _ ?_
                    clear hK K
                    refine norm_ (a' := ?_) ?_ ?_
                    rotate_left
                    · show Act.put _ (some 153) _ = _
                      simp only [Act.put, List.setIfInBounds_toArray, List.set_cons_zero, List.set_cons_succ, i64_w, i32_w]
                      rfl
                    refine pure_ (i := 33) (N := some 154) (v := undef) (a' := ?_) #[true, true, true, true, true, true, true, true, true, true, true, true, true, true, true, true, true, true, true, true, true, true, true, true, true, true, true, true, true, true, true, true, true, true, false, false, false] rfl rfl (by kernel_rfl) (fun _ _ _ h => h) (Or.inr ⟨by rfl, rfl⟩) ?_ ?_
                    rotate_left
                    · simp only [Act.put, List.setIfInBounds_toArray, List.set_cons_zero, List.set_cons_succ, i64_w, i32_w]
                      rfl
                    refine pure_ (i := 34) (N := some 155) (v := undef) (a' := ?_) #[true, true, true, true, true, true, true, true, true, true, true, true, true, true, true, true, true, true, true, true, true, true, true, true, true, true, true, true, true, true, true, true, true, true, true, false, false] rfl rfl (by kernel_rfl) (fun _ _ _ h => h) (Or.inr ⟨by rfl, rfl⟩) ?_ ?_
                    rotate_left
                    · simp only [Act.put, List.setIfInBounds_toArray, List.set_cons_zero, List.set_cons_succ, i64_w, i32_w]
                      rfl
                    refine pure_ (i := 35) (N := some 156) (v := ?_) (a' := ?_) #[true, true, true, true, true, true, true, true, true, true, true, true, true, true, true, true, true, true, true, true, true, true, true, true, true, true, true, true, true, true, true, true, true, true, true, true, false] rfl rfl (by kernel_rfl) (fun _ _ _ h => h) (Or.inl ⟨by rfl, ?_⟩) ?_ ?_
                    rotate_left
                    · intro w'
                      go_simp
                      with_reducible rfl
                    rotate_left
                    · simp only [Act.put, List.setIfInBounds_toArray, List.set_cons_zero, List.set_cons_succ, i64_w, i32_w]
                      rfl
                    refine pure_ (i := 36) (N := some 157) (v := ?_) (a' := ?_) #[true, true, true, true, true, true, true, true, true, true, true, true, true, true, true, true, true, true, true, true, true, true, true, true, true, true, true, true, true, true, true, true, true, true, true, true, true] rfl rfl (by kernel_rfl) (fun _ _ _ h => h) (Or.inl ⟨by rfl, ?_⟩) ?_ ?_
                    rotate_left
                    · intro w'
                      go_simp
                      with_reducible rfl
                    rotate_left
                    · simp only [Act.put, List.setIfInBounds_toArray, List.set_cons_zero, List.set_cons_succ, i64_w, i32_w]
                      rfl
                    refine done_ (by kernel_rfl) ?_
                    go_wp2
                    go_roundw
                    case rel => exact ⟨k + 1, HLT.out, by go_num, ⟨below_drew HB9.out⟩⟩
                    case measure => have := HLT.out; simp [intOf] <;> omega
                · have hkn : k = gs.length := by omega
                  have hol := HOL.out
                  have p1 : ((k : Int) < (out.length : Int)) = False := eq_false (by omega)
                  clear hkn hlt hol hk
                  go_wp2
                  go_ret
                  exact ⟨rfl, below_step HBW.out HB9.out⟩
        · have ze : (er != 0) = true := bne_iff_ne.mpr hz
          have ze' : (er == 0) = false := beq_eq_false_iff_ne.mpr hz
          have ho : out.length = 0 := by rw [HOUT.out, colsF_no cols gs [] (by rw [← HER.out]; exact hz)]; rfl
          have pn : ((out.length : Int) != 0) = false := bne_eq_false_iff_eq.mpr (by omega)
          clear hz ho
          go_wp2
          go_ret
          exact ⟨rfl, HB.out⟩
  · have go : ∀ b1 b2 : Bool, True := fun _ _ => trivial
    cases rb with
    | false =>
      clear hout
      go_enter Try.func3, Try.ntmps3
      go_wp2_with (first
        | (go_at_call 4; refine hsm.out.mono ?_; rintro e w1 ⟨rfl, hb1⟩; have HB1 := Aside0.mk hb1; clear hb1)
        | (go_at_call 5; refine (HRT.out _ HB1.out).mono ?_; rintro e w2 ⟨rfl, hb2⟩; have HB2 := Aside0.mk (below_step HB1.out hb2); clear hb2))
      go_ret
      exact ⟨rfl, HB2.out⟩
    | true =>
      by_cases h12 : cols.length ≤ 12
      · have h40 : ¬ rows.length ≤ 40 := fun h => hout ⟨rfl, h12, h⟩
        have p12 : ((cols.length : Int) > 12) = False := eq_false (by omega)
        have p40 : ((rows.length : Int) > 40) = True := eq_true (by omega)
        clear hout h12 h40
        go_enter Try.func3, Try.ntmps3
        go_wp2_with (first
          | (go_at_call 4; refine hsm.out.mono ?_; rintro e w1 ⟨rfl, hb1⟩; have HB1 := Aside0.mk hb1; clear hb1)
          | (go_at_call 5; refine (HRT.out _ HB1.out).mono ?_; rintro e w2 ⟨rfl, hb2⟩; have HB2 := Aside0.mk (below_step HB1.out hb2); clear hb2))
        go_ret
        exact ⟨rfl, HB2.out⟩
      · have p12 : ((cols.length : Int) > 12) = True := eq_true (by omega)
        clear hout h12
        go_enter Try.func3, Try.ntmps3
        go_wp2_with (first
          | (go_at_call 4; refine hsm.out.mono ?_; rintro e w1 ⟨rfl, hb1⟩; have HB1 := Aside0.mk hb1; clear hb1)
          | (go_at_call 5; refine (HRT.out _ HB1.out).mono ?_; rintro e w2 ⟨rfl, hb2⟩; have HB2 := Aside0.mk (below_step HB1.out hb2); clear hb2))
        go_ret
        exact ⟨rfl, HB2.out⟩
end Go.Proofs.Ytmpbpgbhohefeaa.Ag
end
section
namespace Go.Proofs.Ytmpbpgbhohefeaa.My
open Go.RowKit Go.Proofs.YtmpbpgbhohefeaaW.PrintWords

def OpensAt (P : Program) (t : TypeId) {α : Type} (d : Kd α) (good : α → Prop) (n : Nat) : Prop :=
  ∀ (H : Type) (enc : TypeId × Value → H) (w : World) (sp : Nat → Bool) (held : Bool) (cs : List Value) (x : DataW H × List MemPlace),
    DataW.trod enc P w 0 sp held n t cs = some x → ∃ a : α, d.K w a cs ∧ good a

theorem opens_int {P : Program} {t : TypeId} {k : IntKind} (ht : P.underlying t = some (.int k)) (n : Nat) : OpensAt P t (Kd.int k) (fun a => (Lit.int k a).wf = true) n := by
  intro H enc w sp held cs x h
  cases n with
  | zero => simp [DataW.trod] at h
  | succ n =>
    unfold DataW.trod at h
    rw [ht] at h
    split at h <;> simp_all
    obtain ⟨⟨rfl, hw⟩, rfl⟩ := h
    exact ⟨_, rfl, hw⟩
theorem opens_string {P : Program} {t : TypeId} (ht : P.underlying t = some .string) (n : Nat) : OpensAt P t Kd.string (fun s => s.size ≤ 9223372036854775807) n := by
  intro H enc w sp held cs x h
  cases n with
  | zero => simp [DataW.trod] at h
  | succ n =>
    unfold DataW.trod at h
    rw [ht] at h
    split at h <;> simp_all
    obtain ⟨hs, rfl⟩ := h
    exact ⟨_, rfl, hs⟩

theorem choose_list {α : Type} {p : Nat → α → Prop} : ∀ n : Nat, (∀ i, i < n → ∃ y, p i y) → ∃ l : List α, l.length = n ∧ ∀ i y, l[i]? = some y → p i y
  | 0, _ => ⟨[], rfl, fun i y h => by simp at h⟩
  | n + 1, h => by
    obtain ⟨l, hl, hp⟩ := choose_list n (fun i hi => h i (by omega))
    obtain ⟨y, hy⟩ := h n (by omega)
    refine ⟨l ++ [y], by simp [hl], fun i z hz => ?_⟩
    rcases Nat.lt_or_ge i n with hi | hi
    · rw [List.getElem?_append_left (by omega)] at hz
      exact hp i z hz
    · rw [List.getElem?_append_right (by omega)] at hz
      rcases Nat.eq_or_lt_of_le hi with rfl | hi
      · simp [hl] at hz
        subst hz
        exact hy
      · rw [List.getElem?_eq_none (by simp; omega)] at hz
        cases hz

theorem opens_slice {P : Program} {t e : TypeId} {α : Type} {d : Kd α} {good : α → Prop} (ht : P.underlying t = some (.slice e)) (hs : P.cellsOf e = d.sz) {n : Nat} (hd : ∀ m, m < n → OpensAt P e d good m) :
    OpensAt P t (Kd.slice e d) (fun xs => xs.length ≤ 9223372036854775807 ∧ ∀ a ∈ xs, good a) n := by
  intro H enc w sp held cs x h
  rcases DataW.trod_slice ht h with ⟨rfl, _⟩ | ⟨a, len, cap, elems, rest, m, rfl, rfl, _, _, hl, hm, hlen, hel, _, _⟩
  · exact ⟨[], ⟨none, 0, rfl, Nat.le_refl _, rfl, Nat.zero_le _, fun h => absurd h (Nat.lt_irrefl 0)⟩, Nat.zero_le _, by simp⟩
  · have each : ∀ i, i < len → ∃ y : α, good y ∧ ∃ c, c.length = d.sz ∧ d.K w y c ∧ ∀ j u, c[j]? = some u → w.cell? (a.add (i * d.sz + j)) = some u := by
      intro i hi
      have h1 := hel i hi
      rw [List.getElem?_eq_getElem (by omega)] at h1
      obtain ⟨c, hc, hy⟩ := Option.bind_eq_some_iff.1 h1
      obtain ⟨y, hk, hg⟩ := hd m (Nat.lt_succ_self m) H enc w sp held c _ hy
      obtain ⟨_, hlc, hcell⟩ := World.cells?_some hc
      refine ⟨y, hg, c, d.K_len hk, hk, fun j u hj => ?_⟩
      have hjl : j < c.length := by
        rcases Nat.lt_or_ge j c.length with h | h
        · exact h
        · rw [List.getElem?_eq_none h] at hj; cases hj
      have hcj := hcell j (by omega)
      rw [hj] at hcj
      rw [hs] at hcj
      rw [← hcj, Addr.add_add]
    obtain ⟨l, hll, hf⟩ := choose_list len each
    have hmx : maxLen = 9223372036854775807 := rfl
    refine ⟨l, ⟨some a, cap, by rw [hll], by omega, rfl, by omega, fun _ => ⟨a, rfl, fun j p hp => (hf j p hp).2⟩⟩, by omega, fun y hy => ?_⟩
    obtain ⟨j, hj⟩ := List.getElem?_of_mem hy
    exact (hf j y hj).1

def FieldsAt (P : Program) (fs : List Field) (o : Nat) {α : Type} (d : Kd α) (good : α → Prop) (n : Nat) : Prop :=
  ∀ (H : Type) (enc : TypeId × Value → H) (w : World) (sp : Nat → Bool) (held : Bool) (cs : List Value) (xs : List (DataW H × List MemPlace)), cs.length = o + d.sz → xs.length = fs.length →
    (∀ (i : Nat) (f : Field), fs[i]? = some f → DataW.trod enc P w 0 sp held n f.type ((cs.drop f.offset).take (P.cellsOf f.type)) = xs[i]?) → ∃ a : α, d.K w a (cs.drop o) ∧ good a
theorem fields_one {P : Program} {f : Field} {o : Nat} {α : Type} {d : Kd α} {good : α → Prop} {n : Nat} (ho : f.offset = o) (hs : P.cellsOf f.type = d.sz) (h : OpensAt P f.type d good n) : FieldsAt P [f] o d good n := by
  intro H enc w sp held cs xs hl hx hf
  match xs, hx with
  | [y], _ =>
    have h0 := hf 0 f rfl
    simp only [List.getElem?_cons_zero] at h0
    rw [ho, hs, List.take_of_length_le (by simp; omega)] at h0
    exact h H enc w sp held _ _ h0
theorem fields_cons {P : Program} {f : Field} {fs : List Field} {o : Nat} {α β : Type} {d : Kd α} {d' : Kd β} {good : α → Prop} {good' : β → Prop} {n : Nat} (ho : f.offset = o) (hs : P.cellsOf f.type = d.sz)
    (h : OpensAt P f.type d good n) (hr : FieldsAt P fs (o + d.sz) d' good' n) : FieldsAt P (f :: fs) o (Kd.pair d d') (fun x => good x.1 ∧ good' x.2) n := by
  intro H enc w sp held cs xs hl hx hf
  match xs, hx with
  | y :: ys, hx =>
    have h0 := hf 0 f rfl
    simp only [List.getElem?_cons_zero] at h0
    rw [ho, hs] at h0
    obtain ⟨a, ha, ga⟩ := h H enc w sp held _ _ h0
    have hl' : cs.length = o + d.sz + d'.sz := by rw [hl]; show o + (d.sz + d'.sz) = _; omega
    obtain ⟨b, hb, gb⟩ := hr H enc w sp held cs ys hl' (by simpa using hx) (fun i g hg => by simpa using hf (i + 1) g (by simpa using hg))
    refine ⟨(a, b), ⟨(cs.drop o).take d.sz, cs.drop (o + d.sz), ?_, ha, hb⟩, ga, gb⟩
    rw [← List.drop_drop, List.take_append_drop]
theorem opens_struct {P : Program} {t : TypeId} {fs : Array Field} {α β : Type} {d : Kd α} {good : α → Prop} (f : β → α) (g : α → β) (hfg : ∀ x, f (g x) = x) (ht : P.underlying t = some (.struct fs)) (hs : P.cellsOf t = d.sz) {n : Nat}
    (hd : ∀ m, m < n → FieldsAt P fs.toList 0 d good m) : OpensAt P t (Kd.iso d f) (fun x => good (f x)) n := by
  intro H enc w sp held cs x h
  obtain ⟨xs, m, hm, _, hl, hlen, hf⟩ := DataW.trod_struct ht h
  subst hm
  obtain ⟨a, ha, ga⟩ := hd m (Nat.lt_succ_self m) H enc w sp held cs xs (by rw [hl, hs]; omega) (by simpa using hlen) (fun i y hy => hf i y (by simpa using hy))
  refine ⟨g a, ?_, ?_⟩
  · show d.K w (f (g a)) cs
    rw [hfg]
    simpa using ha
  · show good (f (g a))
    rw [hfg]
    exact ga
theorem opens_imp {P : Program} {t : TypeId} {α : Type} {d : Kd α} {good good' : α → Prop} {n : Nat} (h : OpensAt P t d good n) (hg : ∀ x, good x → good' x) : OpensAt P t d good' n := by
  intro H enc w sp held cs x hx
  obtain ⟨a, ha, ga⟩ := h H enc w sp held cs x hx
  exact ⟨a, ha, hg a ga⟩
end Go.Proofs.Ytmpbpgbhohefeaa.My
end
section
namespace Go.Proofs.Ytmpbpgbhohefeaa.Ag
open Go.RowKit Go.WideShapes Go.Proofs.YtmpbpgbhohefeaaW.PrintWords Go.Proofs.Ytmpbpgbhohefeaa.My Go.Proofs.Ytmpbpgbhohefeaa.PAggregateTypes
set_option linter.unusedVariables false
set_option linter.unusedSimpArgs false
theorem open_i (n : Nat) : OpensAt Try.prog 3 (Kd.int .i64) (fun a => (Lit.int .i64 a).wf = true) n := opens_int Try.underlying3 n
theorem open_s (n : Nat) : OpensAt Try.prog 9 Kd.string (fun s => s.size ≤ 9223372036854775807) n := opens_string (by kernel_rfl) n
theorem open33 (n : Nat) : OpensAt Try.prog 33 k33 (fun _ => True) n :=
  opens_imp (opens_struct (fun x : S33 => (x.f0, x.f1, x.f2)) (fun p => ⟨p.1, p.2.1, p.2.2⟩) (fun _ => rfl) Try.underlying33 (by kernel_rfl)
    (fun m _ => fields_cons rfl (by kernel_rfl) (open_i m) (fields_cons rfl (by kernel_rfl) (open_i m) (fields_one rfl (by kernel_rfl) (open_s m))))) (fun _ _ => trivial)
theorem open41 (n : Nat) : OpensAt Try.prog 41 k41 (fun _ => True) n :=
  opens_imp (opens_struct (fun x : S41 => (x.f0, x.f1, x.f2)) (fun p => ⟨p.1, p.2.1, p.2.2⟩) (fun _ => rfl) Try.underlying41 (by kernel_rfl)
    (fun m _ => fields_cons rfl (by kernel_rfl) (open_s m) (fields_cons rfl (by kernel_rfl) (open_i m) (fields_one rfl (by kernel_rfl) (open_s m))))) (fun _ _ => trivial)
def good43 (x : S43) : Prop := (Lit.int .i64 x.f0).wf = true ∧ (Lit.int .i64 x.f1).wf = true ∧ x.f2.size ≤ 9223372036854775807
theorem open43 (n : Nat) : OpensAt Try.prog 43 k43 good43 n :=
  opens_imp (opens_struct (fun x : S43 => (x.f0, x.f1, x.f2)) (fun p => ⟨p.1, p.2.1, p.2.2⟩) (fun _ => rfl) Try.underlying43 (by kernel_rfl)
    (fun m _ => fields_cons rfl (by kernel_rfl) (open_i m) (fields_cons rfl (by kernel_rfl) (open_i m) (fields_one rfl (by kernel_rfl) (open_s m))))) (fun x h => h)
def goodRow (l : List S43) : Prop := l.length ≤ 9223372036854775807 ∧ ∀ a ∈ l, good43 a
theorem open37 (n : Nat) : OpensAt Try.prog 37 (Kd.slice 43 k43) goodRow n := opens_slice Try.underlying37 (by kernel_rfl) (fun m _ => open43 m)
theorem open_arg {t e : TypeId} {α : Type} {d : Kd α} {good : α → Prop} (ht : Try.prog.underlying t = some (.slice e)) (hs : Try.prog.cellsOf e = d.sz) (hd : ∀ n, OpensAt Try.prog e d good n)
    {H : Type} {enc : TypeId × Value → H} {w : World} {sp : Nat → Bool} {held : Bool} {r : Reach} {b0 : Nat} {v : Value} {dd : DataW H} {p : List MemPlace} (hv : Value.okWide Try.prog w r b0 t v) (h : DataW.Trod enc Try.prog w 0 sp held t v dd p) :
    ∃ (A : Option Addr) (c : Nat) (xs : List α), v = .slice A xs.length c ∧ Kd.C d w A xs.length xs ∧ xs.length ≤ c ∧ ∀ a ∈ xs, good a := by
  obtain ⟨a, len, cap, rfl⟩ := okWide_slice ht hv
  obtain ⟨fuel, hf⟩ := h
  obtain ⟨xs, ⟨A, c, hq, hl, hC⟩, _, hg⟩ := opens_slice ht hs (fun m _ => hd m) H enc w sp held _ _ hf
  have hq' : [Value.slice a len cap] = [Value.slice A xs.length c] := hq
  injection hq' with h1
  exact ⟨A, c, xs, h1, hC, hl, hg⟩
theorem to_V : ∀ l : List S43, (∀ a ∈ l, good43 a) → ∃ l' : List V, l = l'.map toS
  | [], _ => ⟨[], rfl⟩
  | x :: r, h => by
    obtain ⟨l', hl⟩ := to_V r (fun a ha => h a (List.mem_cons_of_mem _ ha))
    obtain ⟨h0, h1, h2⟩ := h x List.mem_cons_self
    exact ⟨⟨x.f0, x.f1, x.f2, h0, h1, h2⟩ :: l', by rw [List.map_cons, ← hl]; rfl⟩
theorem to_rows : ∀ l : List (List S43), (∀ a ∈ l, goodRow a) → ∃ l' : List (List V), l = l'.map (List.map toS)
  | [], _ => ⟨[], rfl⟩
  | x :: r, h => by
    obtain ⟨l', hl⟩ := to_rows r (fun a ha => h a (List.mem_cons_of_mem _ ha))
    obtain ⟨x', hx⟩ := to_V x (h x List.mem_cons_self).2
    exact ⟨x' :: l', by rw [List.map_cons, ← hl, hx]⟩
end Go.Proofs.Ytmpbpgbhohefeaa.Ag
namespace Go.Proofs.Ytmpbpgbhohefeaa.aggregateTypes
open Go.ChangeShapes Go.WideShapes Go.ChangeAt Go.RowKit
set_option linter.unusedVariables false
theorem own : ownKnob Try.prog.godebug = none := by kernel_rfl
theorem laidOut : laidOutB Try.prog = true := by kernel_rfl
set_option maxRecDepth 100000 in
theorem lifted (os : Os) (started : os.Started) (H : Type) (enc : TypeId × Value → H) :
    ReturnsInHanded {} Try.checked os 3 .any (Rows.aggregateTypesSpec.pre6 enc Try.prog Try.f3 Rows.aggregateTypesRow.domain false) (Rows.aggregateTypesSpec.post enc Try.prog Try.f3 false true false false) := by
  refine returnsInHanded_of_change_sized (C := Try.checked) own started (by kernel_rfl) Try.func3
    (ChangeSpec.witness6 (enc := enc) (C := Try.checked) false ⟨#[], #[.slice none 0 0, .slice none 0 0, .slice none 0 0], []⟩ 8 (by kernel_rfl) (by kernel_rfl) (by kernel_rfl) (by kernel_rfl)) ?_
  intro W base args ds gs before hval0 hW hcnd hsz0 _
  have hval : ∀ (j : Nat) t v, Try.f3.params[j]? = some t → args[j]? = some v → Value.okWide Try.prog W .any base t v := hval0
  have hW' := hW
  obtain ⟨p, q, hA0, hV, rfl, hfz, hnd⟩ := hW
  have hA : DataW.TrodAll enc Try.prog W 0 (fun _ => true) true Try.f3.params.toList args.toList ds p := hA0
  rw [Try.params3] at hA hval
  obtain ⟨v0, vs0, d0, ds0, p0, q0, hargs, rfl, rfl, h0, r0⟩ := trodAll_cons hA
  obtain ⟨v1, vs1, d1, ds1, p1, q1, rfl, rfl, rfl, h1, r1⟩ := trodAll_cons r0
  obtain ⟨v2, vs2, d2, ds2, p2, q2, rfl, rfl, rfl, h2, r2⟩ := trodAll_cons r1
  obtain ⟨rfl, rfl, rfl⟩ := trodAll_nil r2
  obtain rfl : args = #[v0, v1, v2] := by cases args; simp_all
  obtain ⟨rfl, rfl⟩ := trodVars_none hV
  have lt0 : ∀ x ∈ p0, x.block < W.heap.size := by obtain ⟨m, hm⟩ := h0; exact DataW.trod_lt m _ _ _ hm
  have lt1 : ∀ x ∈ p1, x.block < W.heap.size := by obtain ⟨m, hm⟩ := h1; exact DataW.trod_lt m _ _ _ hm
  have lt2 : ∀ x ∈ p2, x.block < W.heap.size := by obtain ⟨m, hm⟩ := h2; exact DataW.trod_lt m _ _ _ hm
  obtain ⟨A0, c0, gs, rfl, g0, k0, _⟩ := Ag.open_arg Try.underlying22 (by kernel_rfl) Ag.open33 (hval 0 22 v0 rfl rfl) h0
  obtain ⟨A1, c1, cols, rfl, g1, k1, _⟩ := Ag.open_arg Try.underlying23 (by kernel_rfl) Ag.open41 (hval 1 23 v1 rfl rfl) h1
  obtain ⟨A2, c2, rs, rfl, g2, k2, hgood⟩ := Ag.open_arg Try.underlying24 (by kernel_rfl) Ag.open37 (hval 2 24 v2 rfl rfl) h2
  obtain ⟨rows, hrows⟩ := Ag.to_rows rs hgood
  have hl : rs.length = rows.length := by rw [hrows, List.length_map]
  clear hA0 hval0 hsz0
  have hq := Ag.law_calls W A0 c0 gs A1 c1 cols A2 c2 rows g0 k0 g1 k1 (by rw [← hrows, ← hl]; exact g2) (by rw [← hl]; exact k2)
  rw [← hl] at hq
  refine hq.mono fun e W' ⟨he, bel⟩ => ?_
  subst he
  exact ⟨_, rfl, _, _, _, [], _, [], hW', trodAll_mk1 (shut_bool Try.underlying4 _), (trodAll_cons_mk (Below.trod laidOut (by kernel_rfl) (of_decide_eq_true (by kernel_rfl)) h0 bel lt0) (trodAll_cons_mk (Below.trod laidOut (by kernel_rfl) (of_decide_eq_true (by kernel_rfl)) h1 bel lt1) (trodAll_cons_mk (Below.trod laidOut (by kernel_rfl) (of_decide_eq_true (by kernel_rfl)) h2 bel lt2) trodAll_mk0))), rfl, bel.frame _, fun h => by cases h⟩
theorem over : Rows.aggregateTypesRow.holds Try.pinned (OpenSpec.ofChange Rows.aggregateTypesSpec) :=
  OpenClaim.holds_of_wide 3 Try.f3 rfl rfl rfl rfl rfl rfl rfl ⟨rfl, rfl, rfl, rfl, rfl⟩ rfl rfl rfl rfl rfl (by kernel_rfl) Try.func3 (by kernel_rfl)
    (of_decide_eq_true (by kernel_rfl)) (by unfold Func.isWrapper; first | (rw [if_pos (by decide +kernel)]; kernel_rfl) | (rw [if_neg (by decide +kernel)]; exact ⟨rfl, rfl⟩))
    (fun os started H enc _ => lifted os started H enc)
theorem proved : Rows.AggregateTypesSaid := over
#print axioms proved
end Go.Proofs.Ytmpbpgbhohefeaa.aggregateTypes
namespace Go.Proofs.Ytmpbpgbhohefeaa
theorem aggregateTypes_holds : Rows.AggregateTypesSaid := aggregateTypes.proved
end Go.Proofs.Ytmpbpgbhohefeaa
end
