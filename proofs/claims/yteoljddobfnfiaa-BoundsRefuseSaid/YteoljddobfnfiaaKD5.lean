/- erratalaw20.BoundsRefuse returns true and leaves its arguments as they were, whatever they are. No condition. -/
import Derived.Test.YteoljddobfnfiaaKD4
import Derived.Deep.Slices
import Derived.ChangeArms
import Derived.WideShapes
import Derived.ProofKit
import Derived.OpenShut
import Derived.ShutString
import Derived.ChangeOld
import Derived.SizedLaws
import Derived.Test.YteoljddobfnfiaaRows
section
namespace Go.Proofs.Yteoljddobfnfiaa.PB
open Go.RowKit Go.Proofs.YteoljddobfnfiaaW.PrintWords Go.Proofs.YteoljddobfnfiaaW.PrintLast Go.Proofs.YteoljddobfnfiaaW.PrintMore
attribute [local go_sem] max2_int min2_int max_two min_two max_three min_three max_four min_four
attribute [local go_sem ↓ high] Go.Proofs.Yteoljddobfnfiaa.My.ld44_eq Go.Proofs.Yteoljddobfnfiaa.My.st44_eq Go.Proofs.Yteoljddobfnfiaa.My.ld27_eq Go.Proofs.Yteoljddobfnfiaa.My.st27_eq Go.Proofs.Yteoljddobfnfiaa.My.ld37_eq Go.Proofs.Yteoljddobfnfiaa.My.st37_eq
attribute [local go_sem high] Go.Proofs.Yteoljddobfnfiaa.My.ld44_run Go.Proofs.Yteoljddobfnfiaa.My.st44_run Go.Proofs.Yteoljddobfnfiaa.My.ld27_run Go.Proofs.Yteoljddobfnfiaa.My.st27_run Go.Proofs.Yteoljddobfnfiaa.My.ld37_run Go.Proofs.Yteoljddobfnfiaa.My.st37_run
open Go.Proofs.Yteoljddobfnfiaa.My Go.Proofs.Yteoljddobfnfiaa.Pure
attribute [local go_sem] cell_map run_store_fnV one_int one_bool one_string one_slice one_fnV
set_option linter.unusedVariables false
set_option linter.unusedSimpArgs false

theorem wp_gen {P : Program} {c : Code} {Q : Exit → Act → World → Prop} {a : Act} {W : World} (X : World → Prop) (hX : X W) (h : ∀ W', X W' → Code.wp P c Q a W') : Code.wp P c Q a W := h W hX
section
variable {P : Program} {ops : Array Oper} {rest : List Oper} {o : Oper} {a : Act} {Q : Exit → Act → World → Prop}
theorem row_event {W : World} (hgd : o.guard = none) {e : TypeId} (hrun : (execOp a.eval o).run P W = .ok (.value (.slice (some ⟨W.heap.size, 0, none⟩) 0 0)) (W.alloc (.cells #[] e (0, 0))))
    (h : ∀ g, g = W.heap.size → ∀ w1, w1.heap[g]? = some (.cells #[] e (0, 0)) → Below W.heap.size W w1 → wpList P ops Q rest (a.put o.dst (.slice (some ⟨g, 0, none⟩) 0 0)) w1) : wpList P ops Q (o :: rest) a W :=
  Kd.event_run hgd hrun (h _ rfl _ (blk_new W _) (below_alloc (Below.refl _ _) _))
end
theorem own0 {W : World} {base g : Nat} {e : TypeId} {size : Nat} (h : W.heap[g]? = some (.cells #[] e (0, 0))) (hg : base ≤ g) : W.ownsRow base e size (.slice (some ⟨g, 0, none⟩) 0 0) 0 [] :=
  ⟨by simp, .inr ⟨g, 0, #[], rfl, hg, h, Nat.le_refl _, Nat.zero_le _, by simp, by simp⟩⟩
theorem own_open {W : World} {base : Nat} {e : TypeId} {size n : Nat} {v : Value} {xs : List Value} (h : W.ownsRow base e size v n xs) (hn : 0 < n) : ∃ g cap cur, v = .slice (some ⟨g, 0, none⟩) n cap ∧ base ≤ g ∧ W.heap[g]? = some (.cells cur e (0, 0)) ∧ n ≤ cap ∧ cur.size = cap * size ∧ cur.toList.take (n * size) = xs := by
  rcases h.2 with ⟨_, h0⟩ | ⟨g, cap, cur, hv, hb, hc, h1, h2, h3, h4⟩
  · omega
  · exact ⟨g, cap, cur, hv, hb, hc, h1, h3, h4⟩
def setSeg : List Value → Nat → List Value → List Value
  | L, _, [] => L
  | L, p, v :: vs => setSeg (L.set p v) (p + 1) vs
theorem setSeg_eq : ∀ (vs L : List Value) (p : Nat), p + vs.length ≤ L.length → setSeg L p vs = L.take p ++ vs ++ L.drop (p + vs.length)
  | [], L, p, h => by simp [setSeg]
  | v :: vs, L, p, h => by
    rw [setSeg, setSeg_eq vs (L.set p v) (p + 1) (by rw [List.length_set]; simp at h; omega)]
    have hp : p < L.length := by simp at h; omega
    have e1 : (L.set p v).take (p + 1) = L.take p ++ [v] := by
      rw [List.take_add_one, List.getElem?_set_self hp, List.take_set_of_le (Nat.le_refl p)]
      rfl
    have e2 : (L.set p v).drop (p + 1 + vs.length) = L.drop (p + (v :: vs).length) := by
      rw [List.drop_set_of_lt (by omega), List.length_cons, show p + 1 + vs.length = p + (vs.length + 1) by omega]
    rw [e1, e2]
    simp
@[reducible] def set16 (cur : Array Value) (p : Nat) (v0 v1 v2 v3 v4 v5 v6 v7 v8 v9 v10 v11 v12 v13 v14 v15 : Value) : Array Value :=
  (((((((((((((((cur.setIfInBounds p v0).setIfInBounds (p + 1) v1).setIfInBounds (p + 2) v2).setIfInBounds (p + 3) v3).setIfInBounds (p + 4) v4).setIfInBounds (p + 5) v5).setIfInBounds (p + 6) v6).setIfInBounds (p + 7) v7).setIfInBounds (p + 8) v8).setIfInBounds (p + 9) v9).setIfInBounds (p + 10) v10).setIfInBounds (p + 11) v11).setIfInBounds (p + 12) v12).setIfInBounds (p + 13) v13).setIfInBounds (p + 14) v14).setIfInBounds (p + 15) v15
theorem set16_take {cur : Array Value} {k n : Nat} {news : List Value} (hcur : cur.toList.take n = news) (hk : k * 16 + 16 ≤ n) (hn : n ≤ cur.size) (v0 v1 v2 v3 v4 v5 v6 v7 v8 v9 v10 v11 v12 v13 v14 v15 : Value) :
    (set16 cur (k * 16) v0 v1 v2 v3 v4 v5 v6 v7 v8 v9 v10 v11 v12 v13 v14 v15).toList.take n = news.take (k * 16) ++ [v0, v1, v2, v3, v4, v5, v6, v7, v8, v9, v10, v11, v12, v13, v14, v15] ++ news.drop (k * 16 + [v0, v1, v2, v3, v4, v5, v6, v7, v8, v9, v10, v11, v12, v13, v14, v15].length) := by
  have h1 : (set16 cur (k * 16) v0 v1 v2 v3 v4 v5 v6 v7 v8 v9 v10 v11 v12 v13 v14 v15).toList = setSeg cur.toList (k * 16) [v0, v1, v2, v3, v4, v5, v6, v7, v8, v9, v10, v11, v12, v13, v14, v15] := by
    simp only [set16, Array.toList_setIfInBounds, setSeg, Nat.add_assoc, Nat.reduceAdd]
  have hl : [v0, v1, v2, v3, v4, v5, v6, v7, v8, v9, v10, v11, v12, v13, v14, v15].length = 16 := rfl
  generalize [v0, v1, v2, v3, v4, v5, v6, v7, v8, v9, v10, v11, v12, v13, v14, v15] = vs at h1 hl ⊢
  have hs : cur.toList.length = cur.size := Array.length_toList
  rw [h1, setSeg_eq _ _ _ (by omega), ← hcur, hl]
  have a1 : (cur.toList.take (k * 16)).length = k * 16 := by rw [List.length_take]; omega
  have t1 : (cur.toList.take (k * 16)).take n = cur.toList.take (k * 16) := List.take_of_length_le (by omega)
  have t2 : vs.take (n - k * 16) = vs := List.take_of_length_le (by omega)
  have t3 : (cur.toList.take n).take (k * 16) = cur.toList.take (k * 16) := by rw [List.take_take, Nat.min_eq_left (by omega)]
  have t4 : (cur.toList.take n).drop (k * 16 + 16) = (cur.toList.drop (k * 16 + 16)).take (n - (k * 16 + 16)) := List.drop_take
  rw [t3, t4, List.append_assoc, List.append_assoc, List.take_append, a1, t1, List.take_append, hl, t2, show n - k * 16 - 16 = n - (k * 16 + 16) by omega]
theorem own_C {w W : World} {g n : Nat} {cur : Array Value} {news : List Value} {l : List S44} (hb : W.heap[g]? = some (.cells cur 44 (0, 0))) (hB : Below w.heap.size w W) (hcur : cur.toList.take n = news) (hrep : Reps (k44.K w) 16 l news) (hl : l.length ≤ 9223372036854775807) : Kd.C k44 W (some ⟨g, 0, none⟩) l.length l := by
  refine ⟨rfl, hl, fun _ => ⟨_, rfl, fun j p hj => ⟨(news.drop (j * 16)).take 16, ?_, k44.K_below hB (hrep.2 j p hj), fun i u hi => ?_⟩⟩⟩
  · have h1 := hrep.1
    have h2 : j < l.length := by
      rcases Nat.lt_or_ge j l.length with h | h
      · exact h
      · rw [List.getElem?_eq_none h] at hj; cases hj
    show ((news.drop (j * 16)).take 16).length = 16
    rw [List.length_take, List.length_drop, h1]
    omega
  · rw [add_plain]
    have hi16 : i < 16 := by
      rcases Nat.lt_or_ge i 16 with h | h
      · exact h
      · rw [List.getElem?_eq_none (by simp; omega)] at hi; cases hi
    rw [List.getElem?_take_of_lt hi16, List.getElem?_drop, ← hcur, List.getElem?_take] at hi
    show W.cell? ⟨g, j * 16 + i, none⟩ = some u
    rw [blk_cell hb]
    split at hi
    · rw [← Array.getElem?_toList]; exact hi
    · cases hi
theorem ana_copy (k : Nat) (g cq n : Nat) (l2 : List S44) (hn : l2.length = n) (a0 a1 a2 a3 a4 a5 : Int) (r1 : List S37) (r2 r3 : Int) (W : World) (h : Kd.C k44 W (some ⟨g, 0, none⟩) n l2) (hc : n ≤ cq) (hk : bounds_Analyze.f k [] l2 a0 a1 a2 a3 a4 a5 = some (r1, r2, r3)) :
    Calls Try.prog 9 #[.agg #[.slice none 0 0, .slice (some ⟨g, 0, none⟩) n cq], .agg #[.int .i64 a0, .int .i64 a1, .int .i64 a2, .int .i64 a3, .int .i64 a4, .int .i64 a5]] W fun e w' => ∃ v0_ : Value, e = .returned (.tuple #[v0_, .int .i64 r2, .int .i64 r3]) ∧ Kd.R k37 37 w' W.heap.size (fun _ => True) v0_ r1 ∧ Below W.heap.size W w' := by
  subst hn
  exact bounds_Analyze.calls k none 0 [] _ cq l2 a0 a1 a2 a3 a4 a5 r1 r2 r3 W (Kd.C_nil _ _) (Nat.le_refl _) h hc hk
theorem wit_copy (k : Nat) (g cq n : Nat) (l2 : List S44) (hn : l2.length = n) (b1 b2 : Int) (r : List S55) (W : World) (h : Kd.C k44 W (some ⟨g, 0, none⟩) n l2) (hc : n ≤ cq) (hk : bounds_Witness.f k [] l2 b1 b2 = some r) :
    Calls Try.prog 13 #[.agg #[.slice none 0 0, .slice (some ⟨g, 0, none⟩) n cq], .int .i64 b1, .int .i64 b2] W fun e w' => ∃ v0_ : Value, e = .returned v0_ ∧ Kd.S k55 55 w' W.heap.size (fun _ => True) v0_ r ∧ Below W.heap.size W w' := by
  subst hn
  exact bounds_Witness.calls k none 0 [] _ cq l2 b1 b2 r W (Kd.C_nil _ _) (Nat.le_refl _) h hc hk
theorem ana_e1 {l : List S44} {c0 c1 c2 c3 c4 c5 : Int} {bs : List S37} {e : Int} (h : analyze l c0 c1 c2 c3 c4 c5 = (bs, e, 0)) : e = -1 := by
  unfold analyze at h
  split at h
  · exact (ana_acc l 0 [] bs e h).2.1
  · simp at h
theorem row16 {W : World} {g k n : Nat} {t : TypeId} {cur : Array Value} {news : List Value} {v0 v1 v2 v3 v4 v5 v6 v7 v8 v9 v10 v11 v12 v13 v14 v15 : Value} (hb : W.heap[g]? = some (.cells cur t (0, 0))) (hcur : cur.toList.take n = news) (hc : (news.drop (k * 16)).take 16 = [v0, v1, v2, v3, v4, v5, v6, v7, v8, v9, v10, v11, v12, v13, v14, v15]) :
    (W.cell? ⟨g, k * 16, none⟩ = some v0 ∧ W.cell? ⟨g, k * 16 + 1, none⟩ = some v1 ∧ W.cell? ⟨g, k * 16 + 2, none⟩ = some v2 ∧ W.cell? ⟨g, k * 16 + 3, none⟩ = some v3 ∧ W.cell? ⟨g, k * 16 + 4, none⟩ = some v4 ∧ W.cell? ⟨g, k * 16 + 5, none⟩ = some v5 ∧ W.cell? ⟨g, k * 16 + 6, none⟩ = some v6 ∧ W.cell? ⟨g, k * 16 + 7, none⟩ = some v7 ∧ W.cell? ⟨g, k * 16 + 8, none⟩ = some v8 ∧ W.cell? ⟨g, k * 16 + 9, none⟩ = some v9 ∧ W.cell? ⟨g, k * 16 + 10, none⟩ = some v10 ∧ W.cell? ⟨g, k * 16 + 11, none⟩ = some v11 ∧ W.cell? ⟨g, k * 16 + 12, none⟩ = some v12 ∧ W.cell? ⟨g, k * 16 + 13, none⟩ = some v13 ∧ W.cell? ⟨g, k * 16 + 14, none⟩ = some v14 ∧ W.cell? ⟨g, k * 16 + 15, none⟩ = some v15) ∧ W.frozen? ⟨g, k * 16, none⟩ = false ∧ W.frozen? ⟨g, k * 16 + 1, none⟩ = false ∧ W.frozen? ⟨g, k * 16 + 2, none⟩ = false ∧ W.frozen? ⟨g, k * 16 + 3, none⟩ = false ∧ W.frozen? ⟨g, k * 16 + 4, none⟩ = false ∧ W.frozen? ⟨g, k * 16 + 5, none⟩ = false ∧ W.frozen? ⟨g, k * 16 + 6, none⟩ = false ∧ W.frozen? ⟨g, k * 16 + 7, none⟩ = false ∧ W.frozen? ⟨g, k * 16 + 8, none⟩ = false ∧ W.frozen? ⟨g, k * 16 + 9, none⟩ = false ∧ W.frozen? ⟨g, k * 16 + 10, none⟩ = false ∧ W.frozen? ⟨g, k * 16 + 11, none⟩ = false ∧ W.frozen? ⟨g, k * 16 + 12, none⟩ = false ∧ W.frozen? ⟨g, k * 16 + 13, none⟩ = false ∧ W.frozen? ⟨g, k * 16 + 14, none⟩ = false ∧ W.frozen? ⟨g, k * 16 + 15, none⟩ = false := by
  have key : ∀ i u, i < 16 → [v0, v1, v2, v3, v4, v5, v6, v7, v8, v9, v10, v11, v12, v13, v14, v15][i]? = some u → W.cell? ⟨g, k * 16 + i, none⟩ = some u := by
    intro i u hi hu
    rw [← hc, List.getElem?_take_of_lt hi, List.getElem?_drop, ← hcur] at hu
    rw [blk_cell hb]
    rw [List.getElem?_take] at hu
    split at hu
    · rw [← Array.getElem?_toList]; exact hu
    · cases hu
  exact ⟨⟨key 0 v0 (by decide) rfl, key 1 v1 (by decide) rfl, key 2 v2 (by decide) rfl, key 3 v3 (by decide) rfl, key 4 v4 (by decide) rfl, key 5 v5 (by decide) rfl, key 6 v6 (by decide) rfl, key 7 v7 (by decide) rfl, key 8 v8 (by decide) rfl, key 9 v9 (by decide) rfl, key 10 v10 (by decide) rfl, key 11 v11 (by decide) rfl, key 12 v12 (by decide) rfl, key 13 v13 (by decide) rfl, key 14 v14 (by decide) rfl, key 15 v15 (by decide) rfl⟩, ⟨blk_frozen hb _, blk_frozen hb _, blk_frozen hb _, blk_frozen hb _, blk_frozen hb _, blk_frozen hb _, blk_frozen hb _, blk_frozen hb _, blk_frozen hb _, blk_frozen hb _, blk_frozen hb _, blk_frozen hb _, blk_frozen hb _, blk_frozen hb _, blk_frozen hb _, blk_frozen hb _⟩⟩
set_option maxHeartbeats 8000000 in
set_option maxRecDepth 100000 in
theorem refuse_calls (A0 : Option Addr) (c0 : Nat) (F : List S95) (A1 : Option Addr) (c1 : Nat) (l : List S44) (a0 a1 a2 a3 a4 a5 : Int) (node n : Int) (w : World) (hr0 : Kd.C k95 w A0 F.length F) (hc0 : F.length ≤ c0) (hr1 : Kd.C k44 w A1 l.length l) (hc1 : l.length ≤ c1)
    (hl : l.length ≤ 9223372036854775807) (hin : ∀ x ∈ l, x.f1.length ≤ 9223372036854775807) :
    Calls Try.prog 5 #[.agg #[.slice A0 F.length c0, .slice A1 l.length c1], .agg #[.int .i64 a0, .int .i64 a1, .int .i64 a2, .int .i64 a3, .int .i64 a4, .int .i64 a5], .int .i64 node, .int .i64 n] w fun e w' => e = .returned (.bool true) ∧ Below w.heap.size w w' := by
 have hu25 := Try.underlying25
 have hu27 := Try.underlying27
 have hu44 := Try.underlying44
 obtain ⟨ks, hks⟩ := small_ev.rounds
 obtain ⟨kf, hkf⟩ := (few_ev l F hl).rounds
 have A3 := Aside0.mk hks
 have A4 := Aside0.mk hkf
 clear hks hkf
 have HL := Aside0.mk hl
 have HI := Aside0.mk hin
 clear hl hin
 have HR0 := Aside0.mk hr0
 have HC0 := Aside0.mk hc0
 have HR1 := Aside0.mk hr1
 have HC1 := Aside0.mk hc1
 clear hr0 hc0 hr1 hc1
 have HB := Aside0.mk (Below.refl w.heap.size w)
 obtain ⟨bf, hbf⟩ : ∃ b, b = few l := ⟨_, rfl⟩
 rw [← hbf] at A4
 have HF := Aside0.mk hbf
 clear hbf
 cases bf with
 | false =>
  go_enter Try.func5, Try.ntmps5
  go_upto_region 2 with (first | ((with_reducible refine gate_dst (N := 4) rfl ?_); (try (refine gate_guard (by rfl) ?_; dsimp only)); refine box_event ?hg (N := 4) ?hd (cs := #[.slice A0 F.length c0, .slice A1 l.length c1]) (t := 25) ?hr ?_; (case hd => rfl); (case hg => rfl); (case hr => first | (go_simp; done) | (go_simp; rfl)); intro gp hg wp hbox hb; have BKp := Aside0.mk hbox; have GEp := Aside0.mk ((by rw [hg]; exact below_sizeA : w.heap.size ≤ gp)); replace HB := Aside0.mk (below_stepA hb); clear hb hbox hg) | ((with_reducible refine gate_dst (N := 5) rfl ?_); (try (refine gate_guard (by rfl) ?_; dsimp only)); refine box_event ?hg (N := 5) ?hd (cs := #[.int .i64 a0, .int .i64 a1, .int .i64 a2, .int .i64 a3, .int .i64 a4, .int .i64 a5]) (t := 27) ?hr ?_; (case hd => rfl); (case hg => rfl); (case hr => first | (go_simp; done) | (go_simp; rfl)); intro gc hg wc hbox hb; have BKc := Aside0.mk hbox; have GEc := Aside0.mk ((by rw [hg]; exact below_sizeA : w.heap.size ≤ gc)); have NBp_c := Aside0.mk ((by rw [hg]; exact Nat.ne_of_lt (blk_ltKA BKp.out) : gp ≠ gc)); have NBc_p := Aside0.mk NBp_c.out.symm; replace BKp := Aside0.mk (blk_keepA BKp.out hb); replace HB := Aside0.mk (below_stepA hb); clear hb hbox hg) | ((with_reducible refine gate_callee (f := 7) rfl ?_); refine goesL_ (some 23) rfl rfl Try.func7 (by kernel_rfl) rfl #[] rfl (by (try simp only [List.map_toArray, List.map_cons, List.map_nil]); first | done | rfl) ?_; (with_reducible refine (erratalaw20_small.calls ks true _ A3.out).mono ?_); rintro e w' ⟨rfl, hb⟩; refine ⟨_, rfl, ?_⟩; replace BKp := Aside0.mk (blk_keepA BKp.out hb); replace BKc := Aside0.mk (blk_keepA BKc.out hb); replace HB := Aside0.mk (below_stepA hb); clear hb))
  have hz1 := blk2 BKp.out
  have hnb1 := NBp_c.out
  have hnc1 := NBc_p.out
  go_wp2_with ((with_reducible refine gate_callee (f := 8) rfl ?_); refine goesL_ (some 25) rfl rfl Try.func8 (by kernel_rfl) rfl #[.agg #[.slice A0 F.length c0, .slice A1 l.length c1]] rfl (by (try simp only [List.map_toArray, List.map_cons, List.map_nil]); first | done | rfl) ?_; (with_reducible refine (erratalaw20_few.calls kf _ _ F _ _ l false _ (c_belowA HR0.out) HC0.out (c_belowA HR1.out) HC1.out A4.out).mono ?_); rintro e w' ⟨rfl, hb⟩; refine ⟨_, rfl, ?_⟩; replace BKp := Aside0.mk (blk_keepA BKp.out hb); replace BKc := Aside0.mk (blk_keepA BKc.out hb); replace HB := Aside0.mk (below_stepA hb); have hz2 := blk2 BKp.out; have hz5 := blk6 BKc.out; clear hb)
  go_ret
  exact ⟨by first | rfl | (simp; done), belowA⟩
 | true =>
  by_cases q1 : node < 0
  · have q1b : decide (node < 0) = true := decide_eq_true q1
    clear q1
    go_enter Try.func5, Try.ntmps5
    go_upto_region 2 with (first | ((with_reducible refine gate_dst (N := 4) rfl ?_); (try (refine gate_guard (by rfl) ?_; dsimp only)); refine box_event ?hg (N := 4) ?hd (cs := #[.slice A0 F.length c0, .slice A1 l.length c1]) (t := 25) ?hr ?_; (case hd => rfl); (case hg => rfl); (case hr => first | (go_simp; done) | (go_simp; rfl)); intro gp hg wp hbox hb; have BKp := Aside0.mk hbox; have GEp := Aside0.mk ((by rw [hg]; exact below_sizeA : w.heap.size ≤ gp)); replace HB := Aside0.mk (below_stepA hb); clear hb hbox hg) | ((with_reducible refine gate_dst (N := 5) rfl ?_); (try (refine gate_guard (by rfl) ?_; dsimp only)); refine box_event ?hg (N := 5) ?hd (cs := #[.int .i64 a0, .int .i64 a1, .int .i64 a2, .int .i64 a3, .int .i64 a4, .int .i64 a5]) (t := 27) ?hr ?_; (case hd => rfl); (case hg => rfl); (case hr => first | (go_simp; done) | (go_simp; rfl)); intro gc hg wc hbox hb; have BKc := Aside0.mk hbox; have GEc := Aside0.mk ((by rw [hg]; exact below_sizeA : w.heap.size ≤ gc)); have NBp_c := Aside0.mk ((by rw [hg]; exact Nat.ne_of_lt (blk_ltKA BKp.out) : gp ≠ gc)); have NBc_p := Aside0.mk NBp_c.out.symm; replace BKp := Aside0.mk (blk_keepA BKp.out hb); replace HB := Aside0.mk (below_stepA hb); clear hb hbox hg) | ((with_reducible refine gate_callee (f := 7) rfl ?_); refine goesL_ (some 23) rfl rfl Try.func7 (by kernel_rfl) rfl #[] rfl (by (try simp only [List.map_toArray, List.map_cons, List.map_nil]); first | done | rfl) ?_; (with_reducible refine (erratalaw20_small.calls ks true _ A3.out).mono ?_); rintro e w' ⟨rfl, hb⟩; refine ⟨_, rfl, ?_⟩; replace BKp := Aside0.mk (blk_keepA BKp.out hb); replace BKc := Aside0.mk (blk_keepA BKc.out hb); replace HB := Aside0.mk (below_stepA hb); clear hb))
    have hz1 := blk2 BKp.out
    have hnb1 := NBp_c.out
    have hnc1 := NBc_p.out
    go_wp2_with ((with_reducible refine gate_callee (f := 8) rfl ?_); refine goesL_ (some 25) rfl rfl Try.func8 (by kernel_rfl) rfl #[.agg #[.slice A0 F.length c0, .slice A1 l.length c1]] rfl (by (try simp only [List.map_toArray, List.map_cons, List.map_nil]); first | done | rfl) ?_; (with_reducible refine (erratalaw20_few.calls kf _ _ F _ _ l true _ (c_belowA HR0.out) HC0.out (c_belowA HR1.out) HC1.out A4.out).mono ?_); rintro e w' ⟨rfl, hb⟩; refine ⟨_, rfl, ?_⟩; replace BKp := Aside0.mk (blk_keepA BKp.out hb); replace BKc := Aside0.mk (blk_keepA BKc.out hb); replace HB := Aside0.mk (below_stepA hb); have hz2 := blk2 BKp.out; have hz5 := blk6 BKc.out; clear hb)
    go_ret
    exact ⟨by first | rfl | (simp; done), belowA⟩
  have q1b : decide (node < 0) = false := decide_eq_false q1
  have Q1 := Aside0.mk q1
  clear q1
  by_cases q2 : (l.length : Int) ≤ node
  · have q2b : decide ((l.length : Int) ≤ node) = true := decide_eq_true q2
    clear q2
    go_enter Try.func5, Try.ntmps5
    go_upto_region 2 with (first | ((with_reducible refine gate_dst (N := 4) rfl ?_); (try (refine gate_guard (by rfl) ?_; dsimp only)); refine box_event ?hg (N := 4) ?hd (cs := #[.slice A0 F.length c0, .slice A1 l.length c1]) (t := 25) ?hr ?_; (case hd => rfl); (case hg => rfl); (case hr => first | (go_simp; done) | (go_simp; rfl)); intro gp hg wp hbox hb; have BKp := Aside0.mk hbox; have GEp := Aside0.mk ((by rw [hg]; exact below_sizeA : w.heap.size ≤ gp)); replace HB := Aside0.mk (below_stepA hb); clear hb hbox hg) | ((with_reducible refine gate_dst (N := 5) rfl ?_); (try (refine gate_guard (by rfl) ?_; dsimp only)); refine box_event ?hg (N := 5) ?hd (cs := #[.int .i64 a0, .int .i64 a1, .int .i64 a2, .int .i64 a3, .int .i64 a4, .int .i64 a5]) (t := 27) ?hr ?_; (case hd => rfl); (case hg => rfl); (case hr => first | (go_simp; done) | (go_simp; rfl)); intro gc hg wc hbox hb; have BKc := Aside0.mk hbox; have GEc := Aside0.mk ((by rw [hg]; exact below_sizeA : w.heap.size ≤ gc)); have NBp_c := Aside0.mk ((by rw [hg]; exact Nat.ne_of_lt (blk_ltKA BKp.out) : gp ≠ gc)); have NBc_p := Aside0.mk NBp_c.out.symm; replace BKp := Aside0.mk (blk_keepA BKp.out hb); replace HB := Aside0.mk (below_stepA hb); clear hb hbox hg) | ((with_reducible refine gate_callee (f := 7) rfl ?_); refine goesL_ (some 23) rfl rfl Try.func7 (by kernel_rfl) rfl #[] rfl (by (try simp only [List.map_toArray, List.map_cons, List.map_nil]); first | done | rfl) ?_; (with_reducible refine (erratalaw20_small.calls ks true _ A3.out).mono ?_); rintro e w' ⟨rfl, hb⟩; refine ⟨_, rfl, ?_⟩; replace BKp := Aside0.mk (blk_keepA BKp.out hb); replace BKc := Aside0.mk (blk_keepA BKc.out hb); replace HB := Aside0.mk (below_stepA hb); clear hb))
    have hz1 := blk2 BKp.out
    have hnb1 := NBp_c.out
    have hnc1 := NBc_p.out
    go_wp2_with ((with_reducible refine gate_callee (f := 8) rfl ?_); refine goesL_ (some 25) rfl rfl Try.func8 (by kernel_rfl) rfl #[.agg #[.slice A0 F.length c0, .slice A1 l.length c1]] rfl (by (try simp only [List.map_toArray, List.map_cons, List.map_nil]); first | done | rfl) ?_; (with_reducible refine (erratalaw20_few.calls kf _ _ F _ _ l true _ (c_belowA HR0.out) HC0.out (c_belowA HR1.out) HC1.out A4.out).mono ?_); rintro e w' ⟨rfl, hb⟩; refine ⟨_, rfl, ?_⟩; replace BKp := Aside0.mk (blk_keepA BKp.out hb); replace BKc := Aside0.mk (blk_keepA BKc.out hb); replace HB := Aside0.mk (below_stepA hb); have hz2 := blk2 BKp.out; have hz5 := blk6 BKc.out; clear hb)
    go_ret
    exact ⟨by first | rfl | (simp; done), belowA⟩
  have q2b : decide ((l.length : Int) ≤ node) = false := decide_eq_false q2
  have Q2 := Aside0.mk q2
  clear q2
  by_cases q3 : n < 1
  · have q3b : decide (n < 1) = true := decide_eq_true q3
    clear q3
    go_enter Try.func5, Try.ntmps5
    go_upto_region 2 with (first | ((with_reducible refine gate_dst (N := 4) rfl ?_); (try (refine gate_guard (by rfl) ?_; dsimp only)); refine box_event ?hg (N := 4) ?hd (cs := #[.slice A0 F.length c0, .slice A1 l.length c1]) (t := 25) ?hr ?_; (case hd => rfl); (case hg => rfl); (case hr => first | (go_simp; done) | (go_simp; rfl)); intro gp hg wp hbox hb; have BKp := Aside0.mk hbox; have GEp := Aside0.mk ((by rw [hg]; exact below_sizeA : w.heap.size ≤ gp)); replace HB := Aside0.mk (below_stepA hb); clear hb hbox hg) | ((with_reducible refine gate_dst (N := 5) rfl ?_); (try (refine gate_guard (by rfl) ?_; dsimp only)); refine box_event ?hg (N := 5) ?hd (cs := #[.int .i64 a0, .int .i64 a1, .int .i64 a2, .int .i64 a3, .int .i64 a4, .int .i64 a5]) (t := 27) ?hr ?_; (case hd => rfl); (case hg => rfl); (case hr => first | (go_simp; done) | (go_simp; rfl)); intro gc hg wc hbox hb; have BKc := Aside0.mk hbox; have GEc := Aside0.mk ((by rw [hg]; exact below_sizeA : w.heap.size ≤ gc)); have NBp_c := Aside0.mk ((by rw [hg]; exact Nat.ne_of_lt (blk_ltKA BKp.out) : gp ≠ gc)); have NBc_p := Aside0.mk NBp_c.out.symm; replace BKp := Aside0.mk (blk_keepA BKp.out hb); replace HB := Aside0.mk (below_stepA hb); clear hb hbox hg) | ((with_reducible refine gate_callee (f := 7) rfl ?_); refine goesL_ (some 23) rfl rfl Try.func7 (by kernel_rfl) rfl #[] rfl (by (try simp only [List.map_toArray, List.map_cons, List.map_nil]); first | done | rfl) ?_; (with_reducible refine (erratalaw20_small.calls ks true _ A3.out).mono ?_); rintro e w' ⟨rfl, hb⟩; refine ⟨_, rfl, ?_⟩; replace BKp := Aside0.mk (blk_keepA BKp.out hb); replace BKc := Aside0.mk (blk_keepA BKc.out hb); replace HB := Aside0.mk (below_stepA hb); clear hb))
    have hz1 := blk2 BKp.out
    have hnb1 := NBp_c.out
    have hnc1 := NBc_p.out
    go_wp2_with ((with_reducible refine gate_callee (f := 8) rfl ?_); refine goesL_ (some 25) rfl rfl Try.func8 (by kernel_rfl) rfl #[.agg #[.slice A0 F.length c0, .slice A1 l.length c1]] rfl (by (try simp only [List.map_toArray, List.map_cons, List.map_nil]); first | done | rfl) ?_; (with_reducible refine (erratalaw20_few.calls kf _ _ F _ _ l true _ (c_belowA HR0.out) HC0.out (c_belowA HR1.out) HC1.out A4.out).mono ?_); rintro e w' ⟨rfl, hb⟩; refine ⟨_, rfl, ?_⟩; replace BKp := Aside0.mk (blk_keepA BKp.out hb); replace BKc := Aside0.mk (blk_keepA BKc.out hb); replace HB := Aside0.mk (below_stepA hb); have hz2 := blk2 BKp.out; have hz5 := blk6 BKc.out; clear hb)
    go_ret
    exact ⟨by first | rfl | (simp; done), belowA⟩
  have q3b : decide (n < 1) = false := decide_eq_false q3
  have Q3 := Aside0.mk q3
  clear q3
  by_cases q4 : 100 < n
  · have q4b : decide (100 < n) = true := decide_eq_true q4
    clear q4
    go_enter Try.func5, Try.ntmps5
    go_upto_region 2 with (first | ((with_reducible refine gate_dst (N := 4) rfl ?_); (try (refine gate_guard (by rfl) ?_; dsimp only)); refine box_event ?hg (N := 4) ?hd (cs := #[.slice A0 F.length c0, .slice A1 l.length c1]) (t := 25) ?hr ?_; (case hd => rfl); (case hg => rfl); (case hr => first | (go_simp; done) | (go_simp; rfl)); intro gp hg wp hbox hb; have BKp := Aside0.mk hbox; have GEp := Aside0.mk ((by rw [hg]; exact below_sizeA : w.heap.size ≤ gp)); replace HB := Aside0.mk (below_stepA hb); clear hb hbox hg) | ((with_reducible refine gate_dst (N := 5) rfl ?_); (try (refine gate_guard (by rfl) ?_; dsimp only)); refine box_event ?hg (N := 5) ?hd (cs := #[.int .i64 a0, .int .i64 a1, .int .i64 a2, .int .i64 a3, .int .i64 a4, .int .i64 a5]) (t := 27) ?hr ?_; (case hd => rfl); (case hg => rfl); (case hr => first | (go_simp; done) | (go_simp; rfl)); intro gc hg wc hbox hb; have BKc := Aside0.mk hbox; have GEc := Aside0.mk ((by rw [hg]; exact below_sizeA : w.heap.size ≤ gc)); have NBp_c := Aside0.mk ((by rw [hg]; exact Nat.ne_of_lt (blk_ltKA BKp.out) : gp ≠ gc)); have NBc_p := Aside0.mk NBp_c.out.symm; replace BKp := Aside0.mk (blk_keepA BKp.out hb); replace HB := Aside0.mk (below_stepA hb); clear hb hbox hg) | ((with_reducible refine gate_callee (f := 7) rfl ?_); refine goesL_ (some 23) rfl rfl Try.func7 (by kernel_rfl) rfl #[] rfl (by (try simp only [List.map_toArray, List.map_cons, List.map_nil]); first | done | rfl) ?_; (with_reducible refine (erratalaw20_small.calls ks true _ A3.out).mono ?_); rintro e w' ⟨rfl, hb⟩; refine ⟨_, rfl, ?_⟩; replace BKp := Aside0.mk (blk_keepA BKp.out hb); replace BKc := Aside0.mk (blk_keepA BKc.out hb); replace HB := Aside0.mk (below_stepA hb); clear hb))
    have hz1 := blk2 BKp.out
    have hnb1 := NBp_c.out
    have hnc1 := NBc_p.out
    go_wp2_with ((with_reducible refine gate_callee (f := 8) rfl ?_); refine goesL_ (some 25) rfl rfl Try.func8 (by kernel_rfl) rfl #[.agg #[.slice A0 F.length c0, .slice A1 l.length c1]] rfl (by (try simp only [List.map_toArray, List.map_cons, List.map_nil]); first | done | rfl) ?_; (with_reducible refine (erratalaw20_few.calls kf _ _ F _ _ l true _ (c_belowA HR0.out) HC0.out (c_belowA HR1.out) HC1.out A4.out).mono ?_); rintro e w' ⟨rfl, hb⟩; refine ⟨_, rfl, ?_⟩; replace BKp := Aside0.mk (blk_keepA BKp.out hb); replace BKc := Aside0.mk (blk_keepA BKc.out hb); replace HB := Aside0.mk (below_stepA hb); have hz2 := blk2 BKp.out; have hz5 := blk6 BKc.out; clear hb)
    go_ret
    exact ⟨by first | rfl | (simp; done), belowA⟩
  have q4b : decide (100 < n) = false := decide_eq_false q4
  have Q4 := Aside0.mk q4
  clear q4
  obtain ⟨ka, hka⟩ := (Ana_ev l F HL.out HI.out a0 a1 a2 a3 a4 a5).rounds
  obtain ⟨r1, hr1⟩ : ∃ r, r = analyze l a0 a1 a2 a3 a4 a5 := ⟨_, rfl⟩
  rw [← hr1] at hka
  obtain ⟨bs, e1, e2⟩ := r1
  have A5 := Aside0.mk hka
  have E5 := Aside0.mk hr1
  clear hka hr1
  by_cases z : e2 = 0
  case neg =>
   have zb : (e2 != (0 : Int)) = true := bne_iff_ne.mpr z
   have zc : (e2 == (0 : Int)) = false := beq_eq_false_iff_ne.mpr z
   go_enter Try.func5, Try.ntmps5
   go_upto_region 2 with (first | ((with_reducible refine gate_dst (N := 4) rfl ?_); (try (refine gate_guard (by rfl) ?_; dsimp only)); refine box_event ?hg (N := 4) ?hd (cs := #[.slice A0 F.length c0, .slice A1 l.length c1]) (t := 25) ?hr ?_; (case hd => rfl); (case hg => rfl); (case hr => first | (go_simp; done) | (go_simp; rfl)); intro gp hg wp hbox hb; have BKp := Aside0.mk hbox; have GEp := Aside0.mk ((by rw [hg]; exact below_sizeA : w.heap.size ≤ gp)); replace HB := Aside0.mk (below_stepA hb); clear hb hbox hg) | ((with_reducible refine gate_dst (N := 5) rfl ?_); (try (refine gate_guard (by rfl) ?_; dsimp only)); refine box_event ?hg (N := 5) ?hd (cs := #[.int .i64 a0, .int .i64 a1, .int .i64 a2, .int .i64 a3, .int .i64 a4, .int .i64 a5]) (t := 27) ?hr ?_; (case hd => rfl); (case hg => rfl); (case hr => first | (go_simp; done) | (go_simp; rfl)); intro gc hg wc hbox hb; have BKc := Aside0.mk hbox; have GEc := Aside0.mk ((by rw [hg]; exact below_sizeA : w.heap.size ≤ gc)); have NBp_c := Aside0.mk ((by rw [hg]; exact Nat.ne_of_lt (blk_ltKA BKp.out) : gp ≠ gc)); have NBc_p := Aside0.mk NBp_c.out.symm; replace BKp := Aside0.mk (blk_keepA BKp.out hb); replace HB := Aside0.mk (below_stepA hb); clear hb hbox hg) | ((with_reducible refine gate_callee (f := 7) rfl ?_); refine goesL_ (some 23) rfl rfl Try.func7 (by kernel_rfl) rfl #[] rfl (by (try simp only [List.map_toArray, List.map_cons, List.map_nil]); first | done | rfl) ?_; (with_reducible refine (erratalaw20_small.calls ks true _ A3.out).mono ?_); rintro e w' ⟨rfl, hb⟩; refine ⟨_, rfl, ?_⟩; replace BKp := Aside0.mk (blk_keepA BKp.out hb); replace BKc := Aside0.mk (blk_keepA BKc.out hb); replace HB := Aside0.mk (below_stepA hb); clear hb))
   have hz1 := blk2 BKp.out
   have hnb1 := NBp_c.out
   have hnc1 := NBc_p.out
   go_wp2_with (first | ((with_reducible refine gate_callee (f := 8) rfl ?_); refine goesL_ (some 25) rfl rfl Try.func8 (by kernel_rfl) rfl #[.agg #[.slice A0 F.length c0, .slice A1 l.length c1]] rfl (by (try simp only [List.map_toArray, List.map_cons, List.map_nil]); first | done | rfl) ?_; (with_reducible refine (erratalaw20_few.calls kf _ _ F _ _ l true _ (c_belowA HR0.out) HC0.out (c_belowA HR1.out) HC1.out A4.out).mono ?_); rintro e w' ⟨rfl, hb⟩; refine ⟨_, rfl, ?_⟩; replace BKp := Aside0.mk (blk_keepA BKp.out hb); replace BKc := Aside0.mk (blk_keepA BKc.out hb); replace HB := Aside0.mk (below_stepA hb); have hz2 := blk2 BKp.out; have hz5 := blk6 BKc.out; clear hb) | ((with_reducible refine gate_callee (f := 9) rfl ?_); refine goesL_ (some 50) rfl rfl Try.func9 (by kernel_rfl) rfl #[.agg #[.slice A0 F.length c0, .slice A1 l.length c1], .agg #[.int .i64 a0, .int .i64 a1, .int .i64 a2, .int .i64 a3, .int .i64 a4, .int .i64 a5]] rfl (by (try simp only [List.map_toArray, List.map_cons, List.map_nil]); first | done | rfl) ?_; (with_reducible refine (bounds_Analyze.calls ka _ _ F _ _ l a0 a1 a2 a3 a4 a5 bs e1 e2 _ (c_belowA HR0.out) HC0.out (c_belowA HR1.out) HC1.out A5.out).mono ?_); rintro e w' ⟨v1, rfl, ho, hb⟩; refine ⟨_, rfl, ?_⟩; replace BKp := Aside0.mk (blk_keepA BKp.out hb); replace BKc := Aside0.mk (blk_keepA BKc.out hb); replace HB := Aside0.mk (below_stepA hb); obtain ⟨Ao, co, eo⟩ := Kd.R_slice ho; subst eo; clear ho; have hz3 := blk2 BKp.out; have hz4 := blk6 BKc.out; clear hb))
   go_ret
   exact ⟨by first | rfl | (simp; done), belowA⟩
  subst z
  have hA : Acc l a0 a1 a2 a3 a4 a5 bs := analyze_acc E5.out.symm
  have hlb := hA.len
  have hww := well_len hA.well
  have q1 := Q1.out
  have q2 := Q2.out
  have q3 := Q3.out
  have q4 := Q4.out
  have lb : ((bs.length : Int) == 0) = false := beq_eq_false_iff_ne.mpr (by omega)
  have HLB := Aside0.mk hlb
  have HA := Aside0.mk hA
  have HW := Aside0.mk hww
  have HL1 := Aside0.mk (show 0 < l.length by omega)
  have HL2 := Aside0.mk (show l.length ≤ 40 by omega)
  clear hlb hA hww q1 q2 q3 q4
  obtain ⟨ad, e_, hcell0⟩ := HR1.out.2.2 HL1.out
  subst e_
  clear hcell0
  obtain ⟨news, hrep, hnew⟩ := ReadsRow.inner_ HR1.out
  have HNL := Aside0.mk hrep.1
  have HONE := Aside0.mk (Kd.reps_one hrep (by decide) (fun p c hp => k44.K_one hp))
  have HREP := Aside0.mk hrep
  have HNEW := Aside0.mk hnew
  clear hrep hnew
  obtain ⟨i44, hi44, hz44, hs44, hb44⟩ := info_parts info44
  have HI44 := Aside0.mk hi44
  have HZ44 := Aside0.mk hz44
  have HS44 := Aside0.mk hs44
  have HB44 := Aside0.mk hb44
  clear hi44 hz44 hs44 hb44
  have q1 := Q1.out
  have q2 := Q2.out
  obtain ⟨x, hxe⟩ : ∃ x, x = rd_T44 l node := ⟨_, rfl⟩
  have hkn : node.toNat < l.length := by omega
  have hx : l[node.toNat]? = some x := by have := rd44_at hkn; rw [Int.toNat_of_nonneg (by omega)] at this; rw [hxe, this, List.getElem?_eq_getElem hkn]
  obtain ⟨B1, d1, B4, d4, B8, d8, B9, d9, B13, d13, B14, d14, B15, d15, hcs, m1, g1, m4, g4, m8, g8, m9, g9, m13, g13, m14, g14, m15, g15⟩ := k44_open (HREP.out.2 node.toNat x hx)
  have HCS := Aside0.mk hcs
  have G1 := Aside0.mk g1
  have M1 := Aside0.mk m1
  clear g1 m1
  have G4 := Aside0.mk g4
  have M4 := Aside0.mk m4
  clear g4 m4
  have G8 := Aside0.mk g8
  have M8 := Aside0.mk m8
  clear g8 m8
  have G9 := Aside0.mk g9
  have M9 := Aside0.mk m9
  clear g9 m9
  have G13 := Aside0.mk g13
  have M13 := Aside0.mk m13
  clear g13 m13
  have G14 := Aside0.mk g14
  have M14 := Aside0.mk m14
  clear g14 m14
  have G15 := Aside0.mk g15
  have M15 := Aside0.mk m15
  clear g15 m15
  have HX := Aside0.mk hx
  have HXE := Aside0.mk hxe
  have HKN := Aside0.mk hkn
  clear hcs hx hxe hkn q1 q2
  go_enter Try.func5, Try.ntmps5
  go_upto_region 2 with (first | ((with_reducible refine gate_dst (N := 4) rfl ?_); (try (refine gate_guard (by rfl) ?_; dsimp only)); refine box_event ?hg (N := 4) ?hd (cs := #[.slice A0 F.length c0, .slice (some ad) l.length c1]) (t := 25) ?hr ?_; (case hd => rfl); (case hg => rfl); (case hr => first | (go_simp; done) | (go_simp; rfl)); intro gp hg wp hbox hb; have BKp := Aside0.mk hbox; have GEp := Aside0.mk ((by rw [hg]; exact below_sizeA : w.heap.size ≤ gp)); replace HB := Aside0.mk (below_stepA hb); clear hb hbox hg) | ((with_reducible refine gate_dst (N := 5) rfl ?_); (try (refine gate_guard (by rfl) ?_; dsimp only)); refine box_event ?hg (N := 5) ?hd (cs := #[.int .i64 a0, .int .i64 a1, .int .i64 a2, .int .i64 a3, .int .i64 a4, .int .i64 a5]) (t := 27) ?hr ?_; (case hd => rfl); (case hg => rfl); (case hr => first | (go_simp; done) | (go_simp; rfl)); intro gc hg wc hbox hb; have BKc := Aside0.mk hbox; have GEc := Aside0.mk ((by rw [hg]; exact below_sizeA : w.heap.size ≤ gc)); have NBp_c := Aside0.mk ((by rw [hg]; exact Nat.ne_of_lt (blk_ltKA BKp.out) : gp ≠ gc)); have NBc_p := Aside0.mk NBp_c.out.symm; replace BKp := Aside0.mk (blk_keepA BKp.out hb); replace HB := Aside0.mk (below_stepA hb); clear hb hbox hg) | ((with_reducible refine gate_callee (f := 7) rfl ?_); refine goesL_ (some 23) rfl rfl Try.func7 (by kernel_rfl) rfl #[] rfl (by (try simp only [List.map_toArray, List.map_cons, List.map_nil]); first | done | rfl) ?_; (with_reducible refine (erratalaw20_small.calls ks true _ A3.out).mono ?_); rintro e w' ⟨rfl, hb⟩; refine ⟨_, rfl, ?_⟩; replace BKp := Aside0.mk (blk_keepA BKp.out hb); replace BKc := Aside0.mk (blk_keepA BKc.out hb); replace HB := Aside0.mk (below_stepA hb); clear hb))
  have hz1 := blk2 BKp.out
  have hnb1 := NBp_c.out
  have hnc1 := NBc_p.out
  go_upto_region 8 with (first | ((with_reducible refine gate_callee (f := 8) rfl ?_); refine goesL_ (some 25) rfl rfl Try.func8 (by kernel_rfl) rfl #[.agg #[.slice A0 F.length c0, .slice (some ad) l.length c1]] rfl (by (try simp only [List.map_toArray, List.map_cons, List.map_nil]); first | done | rfl) ?_; (with_reducible refine (erratalaw20_few.calls kf _ _ F _ _ l true _ (c_belowA HR0.out) HC0.out (c_belowA HR1.out) HC1.out A4.out).mono ?_); rintro e w' ⟨rfl, hb⟩; refine ⟨_, rfl, ?_⟩; replace BKp := Aside0.mk (blk_keepA BKp.out hb); replace BKc := Aside0.mk (blk_keepA BKc.out hb); replace HB := Aside0.mk (below_stepA hb); have hz2 := blk2 BKp.out; have hz5 := blk6 BKc.out; clear hb) | ((with_reducible refine gate_callee (f := 9) rfl ?_); refine goesL_ (some 50) rfl rfl Try.func9 (by kernel_rfl) rfl #[.agg #[.slice A0 F.length c0, .slice (some ad) l.length c1], .agg #[.int .i64 a0, .int .i64 a1, .int .i64 a2, .int .i64 a3, .int .i64 a4, .int .i64 a5]] rfl (by (try simp only [List.map_toArray, List.map_cons, List.map_nil]); first | done | rfl) ?_; (with_reducible refine (bounds_Analyze.calls ka _ _ F _ _ l a0 a1 a2 a3 a4 a5 bs e1 0 _ (c_belowA HR0.out) HC0.out (c_belowA HR1.out) HC1.out A5.out).mono ?_); rintro e w' ⟨v1, rfl, ho, hb⟩; refine ⟨_, rfl, ?_⟩; replace BKp := Aside0.mk (blk_keepA BKp.out hb); replace BKc := Aside0.mk (blk_keepA BKc.out hb); replace HB := Aside0.mk (below_stepA hb); obtain ⟨Ao, co, eo⟩ := Kd.R_slice ho; subst eo; clear ho; have hz3 := blk2 BKp.out; have hz4 := blk6 BKc.out; clear hb) | ((with_reducible refine gate_dst (N := 62) rfl ?_); refine row_event ?hg (e := 44) ?hr ?_; (case hg => rfl); (case hr => first | (go_simp; done) | (go_simp; rfl)); intro gL hg w' hbox hb; have BKL := Aside0.mk hbox; have GEL := Aside0.mk ((by rw [hg]; exact below_sizeA : w.heap.size ≤ gL)); have NBp_L := Aside0.mk ((by rw [hg]; exact Nat.ne_of_lt (blk_ltKA BKp.out) : gp ≠ gL)); have NBc_L := Aside0.mk ((by rw [hg]; exact Nat.ne_of_lt (blk_ltKA BKc.out) : gc ≠ gL)); replace BKp := Aside0.mk (blk_keepA BKp.out hb); replace BKc := Aside0.mk (blk_keepA BKc.out hb); replace HB := Aside0.mk (below_stepA hb); clear hb hbox hg; have hz6 := blk2 BKp.out) | ((with_reducible refine gate_builtin (b := .append) (xs := #[.tmp 62, .tmp 64]) rfl ?_); at_builtin; refine wpList_append_own _ rfl (.tmp 62) (.tmp 64) 23 rfl w.heap.size 44 i44 (.agg #[.int .i64 0, .slice none 0 0, .string ⟨#[]⟩, .int .i64 0, .slice none 0 0, .int .i64 0, .int .i64 0, .int .i64 0, .slice none 0 0, .slice none 0 0, .int .i64 0, .int .i64 0, .int .i64 0, .slice none 0 0, .slice none 0 0, .slice none 0 0]) 16 248 Try.underlying23 HI44.out HZ44.out HS44.out HB44.out rfl (by decide) (.slice (some ⟨gL, 0, none⟩) 0 0) 0 [] (by first | (go_simp; done) | (go_simp; rfl)) ?aO ad l.length c1 news (by first | (go_simp; done) | (go_simp; rfl)) HNL.out ?aC HONE.out ?aM ?aB ?aS ?_; (case aO => exact own0 BKL.out GEL.out); (case aC => intro j u hj; exact pw_cell_below HB.out (HNEW.out j u hj)); (case aM => have := HL2.out; simp only [maxLen]; omega); (case aB => have := HL2.out; omega); (case aS => exact below_sizeA); intro v' w' hown hg hat; rw [Nat.zero_add, List.nil_append] at hown; obtain ⟨gq, cq, cur, rfl, hge, hbq, hcq, hsz, hcur⟩ := own_open hown HL1.out; have BKq := Aside0.mk hbq; have GEq := Aside0.mk hge; have CQ := Aside0.mk hcq; have SZ := Aside0.mk hsz; have CU := Aside0.mk hcur; replace BKp := Aside0.mk (blk_grown BKp.out hg (fun e_ => NBp_L.out (Option.some.inj e_))); replace BKc := Aside0.mk (blk_grown BKc.out hg (fun e_ => NBc_L.out (Option.some.inj e_))); replace HB := Aside0.mk (pw_below_grown HB.out _ below_sizeA hg (fun k e_ => by cases e_; exact GEL.out)); have NBp_q := Aside0.mk (blk_ne BKp.out BKq.out (by decide)); have NBq_p := Aside0.mk NBp_q.out.symm; have NBc_q := Aside0.mk (blk_ne BKc.out BKq.out (by decide)); have NBq_c := Aside0.mk NBc_q.out.symm; clear BKL hbq hge hcq hsz hcur hg hat hown) | ((with_reducible refine gate_dst (N := 13) rfl ?_); (try (refine gate_guard (by rfl) ?_; dsimp only)); refine box_event ?hg (N := 13) ?hd (cs := #[.slice none 0 0, .slice none 0 0]) (t := 25) ?hr ?_; (case hd => rfl); (case hg => rfl); (case hr => first | (go_simp; done) | (go_simp; rfl)); intro g3 hg w3 hbox hb; have BK3 := Aside0.mk hbox; have GE3 := Aside0.mk ((by rw [hg]; exact below_sizeA : w.heap.size ≤ g3)); have NBp_3 := Aside0.mk ((by rw [hg]; exact Nat.ne_of_lt (blk_ltKA BKp.out) : gp ≠ g3)); have NB3_p := Aside0.mk NBp_3.out.symm; have NBc_3 := Aside0.mk ((by rw [hg]; exact Nat.ne_of_lt (blk_ltKA BKc.out) : gc ≠ g3)); have NB3_c := Aside0.mk NBc_3.out.symm; have NBq_3 := Aside0.mk ((by rw [hg]; exact Nat.ne_of_lt (blk_ltKA BKq.out) : gq ≠ g3)); have NB3_q := Aside0.mk NBq_3.out.symm; replace BKp := Aside0.mk (blk_keepA BKp.out hb); replace BKc := Aside0.mk (blk_keepA BKc.out hb); replace BKq := Aside0.mk (blk_keepA BKq.out hb); replace HB := Aside0.mk (below_stepA hb); clear hb hbox hg; have hz7 := blk2 BK3.out))
  refine wp_gen (fun W => W.heap[gp]? = some (.cells #[.slice A0 F.length c0, .slice (some ad) l.length c1] 25 (0, 0)) ∧ W.heap[gc]? = some (.cells #[.int .i64 a0, .int .i64 a1, .int .i64 a2, .int .i64 a3, .int .i64 a4, .int .i64 a5] 27 (0, 0)) ∧ W.heap[g3]? = some (.cells #[.slice none 0 0, .slice (some ⟨gq, 0, none⟩) l.length cq] 25 (0, 0)) ∧ W.heap[gq]? = some (.cells cur 44 (0, 0)) ∧ Below w.heap.size w W) ⟨blk_move BKp.out, blk_move BKc.out, blk_move BK3.out, blk_move BKq.out, belowA⟩ (fun w8 h8 => ?_)
  obtain ⟨b1, b2, b3, b4, b5⟩ := h8
  replace BKp := Aside0.mk b1
  replace BKc := Aside0.mk b2
  replace BK3 := Aside0.mk b3
  replace BKq := Aside0.mk b4
  replace HB := Aside0.mk b5
  clear b1 b2 b3 b4 b5 hz1 hnb1 hnc1
  (try clear hz2)
  (try clear hz3)
  (try clear hz4)
  (try clear hz5)
  (try clear hz6)
  (try clear hz7)
  have hz8 := blk2 BK3.out
  have hr8 := row16 BKq.out CU.out HCS.out
  have pn : (0 ≤ node) = True := eq_true (by have := Q1.out; omega)
  have qn : (node < (l.length : Int)) = True := eq_true (by have := Q2.out; omega)
  go_upto_region 10 with (first | ((with_reducible refine gate_dst (N := 14) rfl ?_); (try (refine gate_guard (by rfl) ?_; dsimp only)); refine box_event ?hg (N := 14) ?hd (cs := #[.int .i64 0, .slice none 0 0, .string ⟨#[]⟩, .int .i64 0, .slice none 0 0, .int .i64 0, .int .i64 0, .int .i64 0, .slice none 0 0, .slice none 0 0, .int .i64 0, .int .i64 0, .int .i64 0, .slice none 0 0, .slice none 0 0, .slice none 0 0]) (t := 44) ?hr ?_; (case hd => rfl); (case hg => rfl); (case hr => first | (go_simp; done) | (go_simp; rfl)); intro g4 hg w4 hbox hb; have BK4 := Aside0.mk hbox; have GE4 := Aside0.mk ((by rw [hg]; exact below_sizeA : w.heap.size ≤ g4)); have NBp_4 := Aside0.mk ((by rw [hg]; exact Nat.ne_of_lt (blk_ltKA BKp.out) : gp ≠ g4)); have NB4_p := Aside0.mk NBp_4.out.symm; have NBc_4 := Aside0.mk ((by rw [hg]; exact Nat.ne_of_lt (blk_ltKA BKc.out) : gc ≠ g4)); have NB4_c := Aside0.mk NBc_4.out.symm; have NB3_4 := Aside0.mk ((by rw [hg]; exact Nat.ne_of_lt (blk_ltKA BK3.out) : g3 ≠ g4)); have NB4_3 := Aside0.mk NB3_4.out.symm; have NBq_4 := Aside0.mk ((by rw [hg]; exact Nat.ne_of_lt (blk_ltKA BKq.out) : gq ≠ g4)); have NB4_q := Aside0.mk NBq_4.out.symm; replace BKp := Aside0.mk (blk_keepA BKp.out hb); replace BKc := Aside0.mk (blk_keepA BKc.out hb); replace BK3 := Aside0.mk (blk_keepA BK3.out hb); replace BKq := Aside0.mk (blk_keepA BKq.out hb); replace HB := Aside0.mk (below_stepA hb); clear hb hbox hg; have hz9 := blk16 BK4.out; have hz10 := blk2 BK3.out; have hr10 := row16 BKq.out CU.out HCS.out; have hn1 := NB4_3.out; have hn2 := NB3_4.out; have hn3 := NB4_q.out; have hn4 := NBq_4.out; have hn5 := NB3_q.out; have hn6 := NBq_3.out))
  refine wp_gen (fun W => W.heap[gp]? = some (.cells #[.slice A0 F.length c0, .slice (some ad) l.length c1] 25 (0, 0)) ∧ W.heap[gc]? = some (.cells #[.int .i64 a0, .int .i64 a1, .int .i64 a2, .int .i64 a3, .int .i64 a4, .int .i64 a5] 27 (0, 0)) ∧ W.heap[g3]? = some (.cells #[.slice none 0 0, .slice (some ⟨gq, 0, none⟩) l.length cq] 25 (0, 0)) ∧ W.heap[g4]? = some (.cells #[.int .i64 x.f0, .slice B1 x.f1.length d1, .string x.f2, .int .i64 x.f3, .slice B4 x.f4.length d4, .int .i64 x.f5, .int .i64 x.f6, .int .i64 x.f7, .slice B8 x.f8.length d8, .slice B9 x.f9.length d9, .int .i64 x.f10, .int .i64 x.f11, .int .i64 x.f12, .slice B13 x.f13.length d13, .slice B14 x.f14.length d14, .slice B15 x.f15.length d15] 44 (0, 0)) ∧ W.heap[gq]? = some (.cells cur 44 (0, 0)) ∧ Below w.heap.size w W) ⟨blk_move BKp.out, blk_move BKc.out, blk_move BK3.out, blk_move BK4.out, blk_move BKq.out, belowA⟩ (fun w10 h10 => ?_)
  obtain ⟨b1, b2, b3, b4, b5, b6⟩ := h10
  replace BKp := Aside0.mk b1
  replace BKc := Aside0.mk b2
  replace BK3 := Aside0.mk b3
  replace BK4 := Aside0.mk b4
  replace BKq := Aside0.mk b5
  replace HB := Aside0.mk b6
  clear b1 b2 b3 b4 b5 b6
  (try clear hz8 hr8 hz9 hz10 hr10)
  have hz9 := blk16 BK4.out
  have hz10 := blk2 BK3.out
  have hr10 := row16 BKq.out CU.out HCS.out
  go_upto_region 16 with (fail)
  refine wp_gen (fun W => W.heap[gp]? = some (.cells #[.slice A0 F.length c0, .slice (some ad) l.length c1] 25 (0, 0)) ∧ W.heap[gc]? = some (.cells #[.int .i64 a0, .int .i64 a1, .int .i64 a2, .int .i64 a3, .int .i64 a4, .int .i64 a5] 27 (0, 0)) ∧ W.heap[g3]? = some (.cells #[.slice none 0 0, .slice (some ⟨gq, 0, none⟩) l.length cq] 25 (0, 0)) ∧ W.heap[g4]? = some (.cells #[.int .i64 x.f0, .slice B1 x.f1.length d1, .string x.f2, .int .i64 x.f3, .slice B4 x.f4.length d4, .int .i64 x.f5, .int .i64 (-1), .int .i64 (-1), .slice B8 x.f8.length d8, .slice B9 x.f9.length d9, .int .i64 (-1), .int .i64 (-1), .int .i64 (-1), .slice B13 x.f13.length d13, .slice B14 x.f14.length d14, .slice B15 x.f15.length d15] 44 (0, 0)) ∧ W.heap[gq]? = some (.cells (set16 cur (node.toNat * 16) (.int .i64 x.f0) (.slice B1 x.f1.length d1) (.string x.f2) (.int .i64 x.f3) (.slice B4 x.f4.length d4) (.int .i64 x.f5) (.int .i64 (-1)) (.int .i64 (-1)) (.slice B8 x.f8.length d8) (.slice B9 x.f9.length d9) (.int .i64 (-1)) (.int .i64 (-1)) (.int .i64 (-1)) (.slice B13 x.f13.length d13) (.slice B14 x.f14.length d14) (.slice B15 x.f15.length d15)) 44 (0, 0)) ∧ Below w.heap.size w W) ⟨blk_move BKp.out, blk_move BKc.out, blk_move BK3.out, blk_move BK4.out, blk_move BKq.out, belowA⟩ (fun w16 h16 => ?_)
  obtain ⟨b1, b2, b3, b4, b5, b6⟩ := h16
  replace BKp := Aside0.mk b1
  replace BKc := Aside0.mk b2
  replace BK3 := Aside0.mk b3
  replace BK4 := Aside0.mk b4
  replace BKq := Aside0.mk b5
  replace HB := Aside0.mk b6
  clear b1 b2 b3 b4 b5 b6
  (try clear hz9 hz10 hr10)
  have hrep2 := Kd.reps_set HREP.out HKN.out (x := bad x) (seg := [.int .i64 x.f0, .slice B1 x.f1.length d1, .string x.f2, .int .i64 x.f3, .slice B4 x.f4.length d4, .int .i64 x.f5, .int .i64 (-1), .int .i64 (-1), .slice B8 x.f8.length d8, .slice B9 x.f9.length d9, .int .i64 (-1), .int .i64 (-1), .int .i64 (-1), .slice B13 x.f13.length d13, .slice B14 x.f14.length d14, .slice B15 x.f15.length d15]) (k44_mk w (bad x) M1.out G1.out M4.out G4.out M8.out G8.out M9.out G9.out M13.out G13.out M14.out G14.out M15.out G15.out) rfl
  have hkn := HKN.out
  have hcq := CQ.out
  have hsz := SZ.out
  have hcu2 := set16_take CU.out (k := node.toNat) (by omega) (by omega) (.int .i64 x.f0) (.slice B1 x.f1.length d1) (.string x.f2) (.int .i64 x.f3) (.slice B4 x.f4.length d4) (.int .i64 x.f5) (.int .i64 (-1)) (.int .i64 (-1)) (.slice B8 x.f8.length d8) (.slice B9 x.f9.length d9) (.int .i64 (-1)) (.int .i64 (-1)) (.int .i64 (-1)) (.slice B13 x.f13.length d13) (.slice B14 x.f14.length d14) (.slice B15 x.f15.length d15)
  have hrq := own_C BKq.out HB.out hcu2 hrep2 (by rw [List.length_set]; have := HL2.out; omega)
  have hlen2 : (l.set node.toNat (bad x)).length = l.length := List.length_set ..
  have LEN2 := Aside0.mk (show (l.set node.toNat (bad x)).length ≤ 9223372036854775807 by rw [hlen2]; have := HL2.out; omega)
  have CU2 := Aside0.mk hcu2
  have REP2 := Aside0.mk hrep2
  have hxk : l[node.toNat] = x := by have := HX.out; rw [List.getElem?_eq_getElem hkn] at this; exact Option.some.inj this
  obtain ⟨l2, hl2⟩ : ∃ l2, l2 = l.set node.toNat (bad x) := ⟨_, rfl⟩
  rw [← hl2] at hrq hlen2 LEN2 REP2
  rw [hlen2] at hrq
  have HRQ := Aside0.mk hrq
  have HLEN := Aside0.mk hlen2
  have hin2 : ∀ y ∈ l2, y.f1.length ≤ 9223372036854775807 := by intro y hy; rw [hl2] at hy; rcases List.mem_or_eq_of_mem_set hy with hy | rfl; exact HI.out y hy; exact HI.out x (by rw [← hxk]; exact List.getElem_mem _)
  obtain ⟨k2, hk2⟩ := (Ana_ev l2 [] (by rw [hlen2]; exact HL.out) hin2 a0 a1 a2 a3 a4 a5).rounds
  have hE1 := ana_e1 E5.out.symm
  subst hE1
  have hz16 := blk2 BK3.out
  have hz17 := blk6 BKc.out
  clear hrep2 hcu2 hrq hlen2 hcq hsz
  by_cases hop : 3 < x.f0
  case neg =>
   have hlow : 0 ≤ x.f0 ∧ x.f0 ≤ 3 := ⟨by have := okFrom_at l 0 HW.out.1 node.toNat hkn; have := node_ins this; rw [hxk] at this; omega, by omega⟩
   have h9 : bounds_Analyze.f k2 [] l2 a0 a1 a2 a3 a4 a5 = some (bs, -1, 0) := by rw [hk2, hl2, ← hxk, analyze_low hkn (by rw [hxk]; exact hlow), ← E5.out]
   have A9 := Aside0.mk h9
   have opb : decide (3 < x.f0) = false := decide_eq_false hop
   clear h9 hk2 hl2 hin2 hxk hkn hlow hop
   go_wp2_with (first | ((with_reducible refine gate_callee (f := 9) rfl ?_); refine goesL_ (some 88) rfl rfl Try.func9 (by kernel_rfl) rfl #[.agg #[.slice none 0 0, .slice (some ⟨gq, 0, none⟩) l.length cq], .agg #[.int .i64 a0, .int .i64 a1, .int .i64 a2, .int .i64 a3, .int .i64 a4, .int .i64 a5]] rfl (by (try simp only [List.map_toArray, List.map_cons, List.map_nil]); first | done | rfl) ?_; refine (ana_copy k2 gq cq l.length l2 HLEN.out a0 a1 a2 a3 a4 a5 _ _ _ _ HRQ.out CQ.out A9.out).mono ?_; rintro e w' ⟨v1, rfl, ho, hb⟩; refine ⟨_, rfl, ?_⟩; replace BKp := Aside0.mk (blk_keepA BKp.out hb); replace BKc := Aside0.mk (blk_keepA BKc.out hb); replace BK3 := Aside0.mk (blk_keepA BK3.out hb); replace BK4 := Aside0.mk (blk_keepA BK4.out hb); replace BKq := Aside0.mk (blk_keepA BKq.out hb); replace HB := Aside0.mk (below_stepA hb); clear hb ho; have hz18 := blk2 BK3.out; have hz19 := blk16 BK4.out))
   go_ret
   exact ⟨by first | rfl | (simp; done), belowA⟩
  have hvw := (Acc.well HA.out)
  obtain ⟨hp1, ⟨r0, r1⟩, hwit⟩ := witness_bad (n := n) hvw hkn (by rw [hxk]; exact hop) (by have := Q3.out; have := Q4.out; omega)
  rw [hxk] at hp1 r0 r1 hwit
  rw [← hl2, Int.toNat_of_nonneg (show 0 ≤ node by have := Q1.out; omega)] at hwit
  have hsc := set_cols hkn r0 r1
  rw [hxk, ← hl2] at hsc
  obtain ⟨cols, hcols⟩ : ∃ c, c = (rd_T44 l (rd x.f1 0)).f15 := ⟨_, rfl⟩
  rw [← hcols] at hwit hsc
  have hc20 : ∀ y ∈ l2, y.f15.length ≤ 20 := by intro y hy; rw [hl2] at hy; rcases List.mem_or_eq_of_mem_set hy with hy | rfl; exact few_cols13 HF.out.symm y hy; exact few_cols13 HF.out.symm x (by rw [← hxk]; exact List.getElem_mem _)
  have hcl : cols.length ≤ 20 := by rw [← hsc]; exact hc20 _ (rd44_mem r0 (by rw [HLEN.out]; exact r1))
  obtain ⟨kw, hkw⟩ := (Witness_ev l2 [] (by rw [HLEN.out]; exact HL.out) hin2 hc20 node n).rounds
  rw [hwit] at hkw
  have h9 : bounds_Analyze.f k2 [] l2 a0 a1 a2 a3 a4 a5 = some ([], node, 14) := by rw [hk2, hl2, ← hxk, analyze_bad hkn (by rw [hxk]; exact hop) (by rw [← E5.out]), Int.toNat_of_nonneg (by have := Q1.out; omega)]
  have h12 : bounds_Bounded.f x.f0 x.f1 x.f2 x.f3 x.f4 x.f5 (-1) (-1) x.f8 x.f9 (-1) (-1) (-1) x.f13 x.f14 x.f15 = some false := by have h_ := Bounded_eq (bad x); rw [bad_bdd x hop] at h_; exact h_
  have A9 := Aside0.mk h9
  have A12 := Aside0.mk h12
  have A13 := Aside0.mk hkw
  have opb : decide (3 < x.f0) = true := decide_eq_true hop
  obtain ⟨adI, eI, hxI⟩ := Kd.at_int G1.out 0 (Int.le_refl 0) (by omega)
  subst eI
  rw [show ((0 : Int)).toNat = 0 from rfl, Addr.add_zero'] at hxI
  have HXI := Aside0.mk hxI
  have HP1 := Aside0.mk hp1
  have HR0' := Aside0.mk r0
  have HR1' := Aside0.mk r1
  have HSC := Aside0.mk hsc
  have HCL := Aside0.mk hcl
  clear h9 h12 hkw hk2 hl2 hin2 hxk hkn hop hxI hp1 r0 r1 hsc hcl hwit hcols hc20 hvw
  go_upto_region 21 with (first | ((with_reducible refine gate_callee (f := 9) rfl ?_); refine goesL_ (some 88) rfl rfl Try.func9 (by kernel_rfl) rfl #[.agg #[.slice none 0 0, .slice (some ⟨gq, 0, none⟩) l.length cq], .agg #[.int .i64 a0, .int .i64 a1, .int .i64 a2, .int .i64 a3, .int .i64 a4, .int .i64 a5]] rfl (by (try simp only [List.map_toArray, List.map_cons, List.map_nil]); first | done | rfl) ?_; refine (ana_copy k2 gq cq l.length l2 HLEN.out a0 a1 a2 a3 a4 a5 _ _ _ _ HRQ.out CQ.out A9.out).mono ?_; rintro e w' ⟨v1, rfl, ho, hb⟩; refine ⟨_, rfl, ?_⟩; replace BKp := Aside0.mk (blk_keepA BKp.out hb); replace BKc := Aside0.mk (blk_keepA BKc.out hb); replace BK3 := Aside0.mk (blk_keepA BK3.out hb); replace BK4 := Aside0.mk (blk_keepA BK4.out hb); replace BKq := Aside0.mk (blk_keepA BKq.out hb); replace HB := Aside0.mk (below_stepA hb); clear hb ho; have hz18 := blk2 BK3.out; have hz19 := blk16 BK4.out) | (go_at_call 12; refine (bounds_Bounded.calls _ _ _ _ _ _ _ _ _ _ _ _ _ _ _ _ _ _ _ _ _ _ _ _ _ _ _ _ _ _ false _ (c_belowA G1.out) M1.out (c_belowA G4.out) M4.out (c_belowA G8.out) M8.out (c_belowA G9.out) M9.out (c_belowA G13.out) M13.out (c_belowA G14.out) M14.out (c_belowA G15.out) M15.out A12.out).mono ?_; rintro e w' ⟨rfl, hb⟩; replace BKp := Aside0.mk (blk_keepA BKp.out hb); replace BKc := Aside0.mk (blk_keepA BKc.out hb); replace BK3 := Aside0.mk (blk_keepA BK3.out hb); replace BK4 := Aside0.mk (blk_keepA BK4.out hb); replace BKq := Aside0.mk (blk_keepA BKq.out hb); replace HB := Aside0.mk (below_stepA hb); clear hb))
  refine wp_gen (fun W => W.heap[gp]? = some (.cells #[.slice A0 F.length c0, .slice (some ad) l.length c1] 25 (0, 0)) ∧ W.heap[gc]? = some (.cells #[.int .i64 a0, .int .i64 a1, .int .i64 a2, .int .i64 a3, .int .i64 a4, .int .i64 a5] 27 (0, 0)) ∧ W.heap[g3]? = some (.cells #[.slice none 0 0, .slice (some ⟨gq, 0, none⟩) l.length cq] 25 (0, 0)) ∧ W.heap[g4]? = some (.cells #[.int .i64 x.f0, .slice (some adI) x.f1.length d1, .string x.f2, .int .i64 x.f3, .slice B4 x.f4.length d4, .int .i64 x.f5, .int .i64 (-1), .int .i64 (-1), .slice B8 x.f8.length d8, .slice B9 x.f9.length d9, .int .i64 (-1), .int .i64 (-1), .int .i64 (-1), .slice B13 x.f13.length d13, .slice B14 x.f14.length d14, .slice B15 x.f15.length d15] 44 (0, 0)) ∧ Kd.C k44 W (some ⟨gq, 0, none⟩) l.length l2 ∧ Below w.heap.size w W) ⟨blk_move BKp.out, blk_move BKc.out, blk_move BK3.out, blk_move BK4.out, (by have h_ := own_C BKq.out HB.out CU2.out REP2.out LEN2.out; rw [HLEN.out] at h_; exact h_), belowA⟩ (fun w21 h21 => ?_)
  obtain ⟨b1, b2, b3, b4, b5, b6⟩ := h21
  replace BKp := Aside0.mk b1
  replace BKc := Aside0.mk b2
  replace BK3 := Aside0.mk b3
  replace BK4 := Aside0.mk b4
  have HRW := Aside0.mk b5
  replace HB := Aside0.mk b6
  clear b1 b2 b3 b4 b5 b6
  (try clear hz16 hz17)
  (try clear hz18 hz19)
  have hz20 := blk2 BK3.out
  have hz21 := blk16 BK4.out
  have hxI := pw_cell_below HB.out HXI.out
  have i0 : (0 < (x.f1.length : Int)) = True := eq_true (by have := HP1.out; omega)
  have i1 : (0 < x.f1.length) = True := eq_true HP1.out
  have r0 : (0 ≤ rd x.f1 0) = True := eq_true HR0'.out
  have r1 : (rd x.f1 0 < (l.length : Int)) = True := eq_true HR1'.out
  obtain ⟨adQ, C1, f1, C4, f4, C8, f8, C9, f9, C13, f13, C14, f14, C15, f15, eQ, y0, y1, y2, y3, y4, y5, y6, y7, y8, y9, y10, y11, y12, y13, y14, y15, s1, t1, s4, t4, s8, t8, s9, t9, s13, t13, s14, t14, s15, t15⟩ := at_T44 HRW.out (rd x.f1 0) HR0'.out HR1'.out
  cases eQ
  clear y0 y1 y2 y3 y4 y5 y6 y7 y8 y9 y10 y11 y12 y13 y14 s1 t1 s4 t4 s8 t8 s9 t9 s13 t13 s14 t14
  rw [add_plain] at y15
  dsimp only at y15
  rw [HSC.out] at y15 s15 t15
  have HT15 := Aside0.mk t15
  have HS15 := Aside0.mk s15
  clear s15 t15
  go_upto_region 22 with (fail)
  repeat (go_quiet (fail); go_upto_region 22 with (fail))
  refine wp_gen (fun W => W.heap[gp]? = some (.cells #[.slice A0 F.length c0, .slice (some ad) l.length c1] 25 (0, 0)) ∧ W.heap[gc]? = some (.cells #[.int .i64 a0, .int .i64 a1, .int .i64 a2, .int .i64 a3, .int .i64 a4, .int .i64 a5] 27 (0, 0)) ∧ W.heap[g3]? = some (.cells #[.slice none 0 0, .slice (some ⟨gq, 0, none⟩) l.length cq] 25 (0, 0)) ∧ W.heap[g4]? = some (.cells #[.int .i64 x.f0, .slice (some adI) x.f1.length d1, .string x.f2, .int .i64 x.f3, .slice B4 x.f4.length d4, .int .i64 x.f5, .int .i64 (-1), .int .i64 (-1), .slice B8 x.f8.length d8, .slice B9 x.f9.length d9, .int .i64 (-1), .int .i64 (-1), .int .i64 (-1), .slice B13 x.f13.length d13, .slice B14 x.f14.length d14, .slice B15 x.f15.length d15] 44 (0, 0)) ∧ Kd.C k44 W (some ⟨gq, 0, none⟩) l.length l2 ∧ Kd.C k50 W C15 cols.length cols ∧ Below w.heap.size w W) ⟨blk_move BKp.out, blk_move BKc.out, blk_move BK3.out, blk_move BK4.out, (by repeat (first | exact HRW.out | refine Kd.C_drewN ?_ _ | refine Kd.C_drew ?_)), (by repeat (first | exact HT15.out | refine Kd.C_drewN ?_ _ | refine Kd.C_drew ?_)), belowA⟩ (fun w22 h22 => ?_)
  obtain ⟨b1, b2, b3, b4, b5, b6, b7⟩ := h22
  replace BKp := Aside0.mk b1
  replace BKc := Aside0.mk b2
  replace BK3 := Aside0.mk b3
  replace BK4 := Aside0.mk b4
  replace HRW := Aside0.mk b5
  replace HT15 := Aside0.mk b6
  replace HB := Aside0.mk b7
  clear b1 b2 b3 b4 b5 b6 b7 hz20 hz21 hxI i0 i1 r0 r1 y15
  have hz22 := blk2 BK3.out
  have hz23 := blk6 BKc.out
  go_wp2
  go_loop [20] (fun v20 => ∃ i : Int, 0 ≤ i ∧ i ≤ (cols.length : Int) ∧ v20 = .int .i64 i ∧ Aside0 (∀ j : Int, 0 ≤ j → j < i → typed (rd_T50 cols j) = true)) (fun v20 => cols.length - (intOf v20).toNat)
  case atStart => exact ⟨0, Int.le_refl _, Int.natCast_nonneg _, rfl, ⟨fun j h hj => by omega⟩⟩
  case round =>
   obtain ⟨i, hi0, hi1, rfl, HT⟩ := hrel
   have hi2 : i ≤ 20 := by have := HCL.out; omega
   by_cases hlt : i < (cols.length : Int)
   case pos =>
    obtain ⟨adC, eC, x0, x1, x2⟩ := at_T50 HT15.out i hi0 hlt
    subst eC
    have pi : (0 ≤ i) = True := eq_true hi0
    have qi : (i < (cols.length : Int)) = True := eq_true hlt
    by_cases ht : typed (rd_T50 cols i) = true
    case pos =>
     have hf : 0 ≤ (rd_T50 cols i).f1 ∧ (rd_T50 cols i).f1 ≤ 2 := of_decide_eq_true ht
     have f1b : decide ((rd_T50 cols i).f1 < 0) = false := decide_eq_false (by omega)
     have f2b : decide (3 ≤ (rd_T50 cols i).f1) = false := decide_eq_false (by omega)
     have HT2 := Aside0.mk (show ∀ j : Int, 0 ≤ j → j < i + 1 → typed (rd_T50 cols j) = true from fun j h0 h1 => by by_cases e : j = i; subst e; exact ht; exact HT.out j h0 (by omega))
     clear hf ht
     go_wp2
     go_round
     case rel => exact ⟨i + 1, by omega, by omega, rfl, HT2⟩
     case measure => simp [intOf]; omega
    have hz : rowsOf cols n.toNat = [] := by unfold rowsOf; rw [if_neg]; intro h_; exact ht (by have := List.all_eq_true.1 h_ (rd_T50 cols i) (by rw [← Int.toNat_of_nonneg hi0, rd50_at (by omega)]; exact List.getElem_mem _); exact this)
    rw [hz] at A13
    clear hz
    by_cases g0 : (rd_T50 cols i).f1 < 0
    case pos =>
     have f1b : decide ((rd_T50 cols i).f1 < 0) = true := decide_eq_true g0
     clear g0 ht
     go_wp2_with (first | (go_at_call 13; refine (wit_copy kw gq cq l.length l2 HLEN.out node n _ _ HRW.out CQ.out A13.out).mono ?_; rintro e w' ⟨v2, rfl, ho, hb⟩; obtain ⟨Aw, cw, ew⟩ := Kd.S_slice ho; subst ew; replace BKp := Aside0.mk (blk_keepA BKp.out hb); replace BKc := Aside0.mk (blk_keepA BKc.out hb); replace BK3 := Aside0.mk (blk_keepA BK3.out hb); replace BK4 := Aside0.mk (blk_keepA BK4.out hb); replace HB := Aside0.mk (below_stepA hb); clear hb))
     go_ret
     exact ⟨by first | rfl | (simp; done), belowA⟩
    case neg =>
     have f1b : decide ((rd_T50 cols i).f1 < 0) = false := decide_eq_false g0
     have f2b : decide (3 ≤ (rd_T50 cols i).f1) = true := decide_eq_true (by by_cases e : 3 ≤ (rd_T50 cols i).f1; exact e; exact absurd (decide_eq_true (show 0 ≤ (rd_T50 cols i).f1 ∧ (rd_T50 cols i).f1 ≤ 2 by omega)) ht)
     clear g0 ht
     go_wp2_with (first | (go_at_call 13; refine (wit_copy kw gq cq l.length l2 HLEN.out node n _ _ HRW.out CQ.out A13.out).mono ?_; rintro e w' ⟨v2, rfl, ho, hb⟩; obtain ⟨Aw, cw, ew⟩ := Kd.S_slice ho; subst ew; replace BKp := Aside0.mk (blk_keepA BKp.out hb); replace BKc := Aside0.mk (blk_keepA BKc.out hb); replace BK3 := Aside0.mk (blk_keepA BK3.out hb); replace BK4 := Aside0.mk (blk_keepA BK4.out hb); replace HB := Aside0.mk (below_stepA hb); clear hb))
     go_ret
     exact ⟨by first | rfl | (simp; done), belowA⟩
   have qi : (i < (cols.length : Int)) = False := eq_false hlt
   have hall : cols.all typed = true := List.all_eq_true.2 (fun y hy => by obtain ⟨k, hk, e⟩ := List.getElem_of_mem hy; have h_ := HT.out (k : Int) (Int.natCast_nonneg k) (by omega); rw [rd50_at hk, e] at h_; exact h_)
   have hrw : rowsOf cols n.toNat = rowsFrom cols 0 n.toNat := by unfold rowsOf; rw [if_pos hall]
   rw [hrw] at A13
   obtain ⟨rows, hrows⟩ : ∃ r, r = rowsFrom cols 0 n.toNat := ⟨_, rfl⟩
   rw [← hrows] at A13
   have HROWS := Aside0.mk hrows
   have hrl : rows.length = n.toNat := by rw [hrows]; exact (rowsFrom_len _ _ _).1
   have HRL := Aside0.mk hrl
   clear hall hrw hrows hrl
   go_upto_region 28 with (first | (go_at_call 13; refine (wit_copy kw gq cq l.length l2 HLEN.out node n _ _ HRW.out CQ.out A13.out).mono ?_; rintro e w' ⟨v2, rfl, ho, hb⟩; obtain ⟨Aw, cw, ew⟩ := Kd.S_slice ho; subst ew; replace BKp := Aside0.mk (blk_keepA BKp.out hb); replace BKc := Aside0.mk (blk_keepA BKc.out hb); replace BK3 := Aside0.mk (blk_keepA BK3.out hb); replace BK4 := Aside0.mk (blk_keepA BK4.out hb); replace HB := Aside0.mk (below_stepA hb); have HS := Aside0.mk (Kd.S_reads' ho).2.2; clear ho hb))
   refine wp_gen (fun W => W.heap[gc]? = some (.cells #[.int .i64 a0, .int .i64 a1, .int .i64 a2, .int .i64 a3, .int .i64 a4, .int .i64 a5] 27 (0, 0)) ∧ Kd.C k55 W Aw rows.length rows ∧ Below w.heap.size w W) ⟨blk_move BKc.out, HS.out, belowA⟩ (fun w28 h28 => ?_)
   obtain ⟨b1, b2, b3⟩ := h28
   have HC28 := Aside0.mk b1
   have HS28 := Aside0.mk b2
   have HB28 := Aside0.mk b3
   clear b1 b2 b3 hz22 hz23 BKp BK3 BK4 HRW HT15 HS BKc HB
   have hsp : a5 ≤ 30000 := by have h_ := HA.out.right; unfold rightC at h_; omega
   have HSP := Aside0.mk hsp
   clear hsp
   have lb : ((rows.length : Int) == n) = true := beq_iff_eq.mpr (by have := HRL.out; have := Q3.out; omega)
   have HLB2 := Aside0.mk lb
   have r100 : rows.length ≤ 100 := by have := HRL.out; have := Q4.out; omega
   go_wp2
   go_loopw [22] (fun v22 w' => ∃ i : Int, 1 ≤ i ∧ i ≤ 100 ∧ v22 = .int .i64 i ∧ Aside0 (w'.heap[gc]? = some (.cells #[.int .i64 a0, .int .i64 a1, .int .i64 a2, .int .i64 a3, .int .i64 a4, .int .i64 a5] 27 (0, 0))) ∧ Aside0 (Kd.C k55 w' Aw rows.length rows) ∧ Aside0 (Below w.heap.size w w')) (fun v22 _ => rows.length - (intOf v22).toNat)
   case atStart => exact ⟨1, Int.le_refl _, by omega, rfl, HC28, HS28, HB28⟩
   case round =>
    clear HC28 HS28 HB28
    obtain ⟨i, hi1, hi100, rfl, HCr, HSr, HB⟩ := hrel
    by_cases hlt2 : i < (rows.length : Int)
    case pos =>
     obtain ⟨adW, E1, e1, eW, x0, x1, x2, x3, x4⟩ := at_T55 HSr.out i (by omega) hlt2
     subst eW
     obtain ⟨adV, F1, f1, eV, y0, y1, y2, y3, y4⟩ := at_T55 HSr.out (i - 1) (by omega) (by omega)
     cases eV
     clear x3 x4 y1 y2 y3 y4
     have vi : rd_T55 rows i = ⟨30001 * i, cols.map zeroOf, 1⟩ := by have e : ((i.toNat : Nat) : Int) = i := Int.toNat_of_nonneg (by omega); rw [← e, rd55_at (by omega)]; have h_ := HROWS.out; subst h_; rw [rowsFrom_at cols n.toNat 0 i.toNat (by omega)]; simp only [Nat.zero_add]
     have vj : rd_T55 rows (i - 1) = ⟨30001 * (i - 1), cols.map zeroOf, 1⟩ := by have e : (((i - 1).toNat : Nat) : Int) = i - 1 := Int.toNat_of_nonneg (by omega); rw [← e, rd55_at (by omega)]; have h_ := HROWS.out; subst h_; rw [rowsFrom_at cols n.toNat 0 (i - 1).toNat (by omega)]; simp only [Nat.zero_add]
     rw [vi] at x0 x1 x2
     rw [vj] at y0
     rw [show (i - 1).toNat = i.toNat - 1 by omega] at y0
     dsimp only at x0 x1 x2 y0
     rw [List.length_map] at x1
     obtain ⟨tI, htI⟩ : ∃ t, t = 30001 * i := ⟨_, rfl⟩
     obtain ⟨tJ, htJ⟩ : ∃ t, t = 30001 * (i - 1) := ⟨_, rfl⟩
     rw [← htI] at x0
     rw [← htJ] at y0
     have hd1 : 0 ≤ tJ ∧ tI ≤ 4000000 ∧ tJ ≤ 4000000 ∧ 0 ≤ tI := by omega
     have db : decide (tI - tJ ≤ a5) = false := decide_eq_false (by have := HSP.out; omega)
     clear vi vj htI htJ
     obtain ⟨hd1, hd2, hd3, hd4⟩ := hd1
     have pi : (0 ≤ i) = True := eq_true (by omega)
     have qi2 : (i < (rows.length : Int)) = True := eq_true hlt2
     have pj : (0 ≤ i - 1) = True := eq_true (by omega)
     have qj : (i - 1 < (rows.length : Int)) = True := eq_true (by omega)
     have hzc := blk6 HCr.out
     go_upto_region 31 with (fail)
     go_quiet (fail)
     try go_wp2
     go_roundw
     case rel => exact ⟨i + 1, by omega, by omega, rfl, Aside0.mk (blk_move HCr.out), Aside0.mk (by have h_ := HSr.out; repeat (first | exact h_ | refine Kd.C_drewN ?_ _ | refine Kd.C_drew ?_)), Aside0.mk belowA⟩
     case measure => simp [intOf]; omega
    have qi2 : (i < (rows.length : Int)) = False := eq_false hlt2
    go_wp2
    go_ret
    exact ⟨by first | rfl | (simp; done), belowA⟩
end Go.Proofs.Yteoljddobfnfiaa.PB
end
section
namespace Go.Proofs.Yteoljddobfnfiaa.My
open Go.RowKit Go.Proofs.YteoljddobfnfiaaW.PrintWords

def OpensAt (P : Program) (t : TypeId) {α : Type} (d : Kd α) (good : α → Prop) (n : Nat) : Prop :=
  ∀ (H : Type) (enc : TypeId × Value → H) (w : World) (sp : Nat → Bool) (held : Bool) (cs : List Value) (x : DataW H × List MemPlace),
    DataW.trod enc P w 0 sp held n t cs = some x → ∃ a : α, d.K w a cs ∧ good a

theorem opens_int {P : Program} {t : TypeId} {k : IntKind} (ht : P.underlying t = some (.int k)) (n : Nat) : OpensAt P t (Kd.int k) (fun a => (Lit.int k a).wf = true) n := by
  intro H enc w sp held cs x h
  cases n with
  | zero => simp [DataW.trod] at h
  | succ n =>
    unfold DataW.trod at h
    rw [ht] at h
    split at h <;> simp_all
    obtain ⟨⟨rfl, hw⟩, rfl⟩ := h
    exact ⟨_, rfl, hw⟩
theorem opens_string {P : Program} {t : TypeId} (ht : P.underlying t = some .string) (n : Nat) : OpensAt P t Kd.string (fun s => s.size ≤ 9223372036854775807) n := by
  intro H enc w sp held cs x h
  cases n with
  | zero => simp [DataW.trod] at h
  | succ n =>
    unfold DataW.trod at h
    rw [ht] at h
    split at h <;> simp_all
    obtain ⟨hs, rfl⟩ := h
    exact ⟨_, rfl, hs⟩

theorem choose_list {α : Type} {p : Nat → α → Prop} : ∀ n : Nat, (∀ i, i < n → ∃ y, p i y) → ∃ l : List α, l.length = n ∧ ∀ i y, l[i]? = some y → p i y
  | 0, _ => ⟨[], rfl, fun i y h => by simp at h⟩
  | n + 1, h => by
    obtain ⟨l, hl, hp⟩ := choose_list n (fun i hi => h i (by omega))
    obtain ⟨y, hy⟩ := h n (by omega)
    refine ⟨l ++ [y], by simp [hl], fun i z hz => ?_⟩
    rcases Nat.lt_or_ge i n with hi | hi
    · rw [List.getElem?_append_left (by omega)] at hz
      exact hp i z hz
    · rw [List.getElem?_append_right (by omega)] at hz
      rcases Nat.eq_or_lt_of_le hi with rfl | hi
      · simp [hl] at hz
        subst hz
        exact hy
      · rw [List.getElem?_eq_none (by simp; omega)] at hz
        cases hz

theorem opens_slice {P : Program} {t e : TypeId} {α : Type} {d : Kd α} {good : α → Prop} (ht : P.underlying t = some (.slice e)) (hs : P.cellsOf e = d.sz) {n : Nat} (hd : ∀ m, m < n → OpensAt P e d good m) :
    OpensAt P t (Kd.slice e d) (fun xs => xs.length ≤ 9223372036854775807 ∧ ∀ a ∈ xs, good a) n := by
  intro H enc w sp held cs x h
  rcases DataW.trod_slice ht h with ⟨rfl, _⟩ | ⟨a, len, cap, elems, rest, m, rfl, rfl, _, _, hl, hm, hlen, hel, _, _⟩
  · exact ⟨[], ⟨none, 0, rfl, Nat.le_refl _, rfl, Nat.zero_le _, fun h => absurd h (Nat.lt_irrefl 0)⟩, Nat.zero_le _, by simp⟩
  · have each : ∀ i, i < len → ∃ y : α, good y ∧ ∃ c, c.length = d.sz ∧ d.K w y c ∧ ∀ j u, c[j]? = some u → w.cell? (a.add (i * d.sz + j)) = some u := by
      intro i hi
      have h1 := hel i hi
      rw [List.getElem?_eq_getElem (by omega)] at h1
      obtain ⟨c, hc, hy⟩ := Option.bind_eq_some_iff.1 h1
      obtain ⟨y, hk, hg⟩ := hd m (Nat.lt_succ_self m) H enc w sp held c _ hy
      obtain ⟨_, hlc, hcell⟩ := World.cells?_some hc
      refine ⟨y, hg, c, d.K_len hk, hk, fun j u hj => ?_⟩
      have hjl : j < c.length := by
        rcases Nat.lt_or_ge j c.length with h | h
        · exact h
        · rw [List.getElem?_eq_none h] at hj; cases hj
      have hcj := hcell j (by omega)
      rw [hj] at hcj
      rw [hs] at hcj
      rw [← hcj, Addr.add_add]
    obtain ⟨l, hll, hf⟩ := choose_list len each
    have hmx : maxLen = 9223372036854775807 := rfl
    refine ⟨l, ⟨some a, cap, by rw [hll], by omega, rfl, by omega, fun _ => ⟨a, rfl, fun j p hp => (hf j p hp).2⟩⟩, by omega, fun y hy => ?_⟩
    obtain ⟨j, hj⟩ := List.getElem?_of_mem hy
    exact (hf j y hj).1

def FieldsAt (P : Program) (fs : List Field) (o : Nat) {α : Type} (d : Kd α) (good : α → Prop) (n : Nat) : Prop :=
  ∀ (H : Type) (enc : TypeId × Value → H) (w : World) (sp : Nat → Bool) (held : Bool) (cs : List Value) (xs : List (DataW H × List MemPlace)), cs.length = o + d.sz → xs.length = fs.length →
    (∀ (i : Nat) (f : Field), fs[i]? = some f → DataW.trod enc P w 0 sp held n f.type ((cs.drop f.offset).take (P.cellsOf f.type)) = xs[i]?) → ∃ a : α, d.K w a (cs.drop o) ∧ good a
theorem fields_one {P : Program} {f : Field} {o : Nat} {α : Type} {d : Kd α} {good : α → Prop} {n : Nat} (ho : f.offset = o) (hs : P.cellsOf f.type = d.sz) (h : OpensAt P f.type d good n) : FieldsAt P [f] o d good n := by
  intro H enc w sp held cs xs hl hx hf
  match xs, hx with
  | [y], _ =>
    have h0 := hf 0 f rfl
    simp only [List.getElem?_cons_zero] at h0
    rw [ho, hs, List.take_of_length_le (by simp; omega)] at h0
    exact h H enc w sp held _ _ h0
theorem fields_cons {P : Program} {f : Field} {fs : List Field} {o : Nat} {α β : Type} {d : Kd α} {d' : Kd β} {good : α → Prop} {good' : β → Prop} {n : Nat} (ho : f.offset = o) (hs : P.cellsOf f.type = d.sz)
    (h : OpensAt P f.type d good n) (hr : FieldsAt P fs (o + d.sz) d' good' n) : FieldsAt P (f :: fs) o (Kd.pair d d') (fun x => good x.1 ∧ good' x.2) n := by
  intro H enc w sp held cs xs hl hx hf
  match xs, hx with
  | y :: ys, hx =>
    have h0 := hf 0 f rfl
    simp only [List.getElem?_cons_zero] at h0
    rw [ho, hs] at h0
    obtain ⟨a, ha, ga⟩ := h H enc w sp held _ _ h0
    have hl' : cs.length = o + d.sz + d'.sz := by rw [hl]; show o + (d.sz + d'.sz) = _; omega
    obtain ⟨b, hb, gb⟩ := hr H enc w sp held cs ys hl' (by simpa using hx) (fun i g hg => by simpa using hf (i + 1) g (by simpa using hg))
    refine ⟨(a, b), ⟨(cs.drop o).take d.sz, cs.drop (o + d.sz), ?_, ha, hb⟩, ga, gb⟩
    rw [← List.drop_drop, List.take_append_drop]
theorem opens_struct {P : Program} {t : TypeId} {fs : Array Field} {α β : Type} {d : Kd α} {good : α → Prop} (f : β → α) (g : α → β) (hfg : ∀ x, f (g x) = x) (ht : P.underlying t = some (.struct fs)) (hs : P.cellsOf t = d.sz) {n : Nat}
    (hd : ∀ m, m < n → FieldsAt P fs.toList 0 d good m) : OpensAt P t (Kd.iso d f) (fun x => good (f x)) n := by
  intro H enc w sp held cs x h
  obtain ⟨xs, m, hm, _, hl, hlen, hf⟩ := DataW.trod_struct ht h
  subst hm
  obtain ⟨a, ha, ga⟩ := hd m (Nat.lt_succ_self m) H enc w sp held cs xs (by rw [hl, hs]; omega) (by simpa using hlen) (fun i y hy => hf i y (by simpa using hy))
  refine ⟨g a, ?_, ?_⟩
  · show d.K w (f (g a)) cs
    rw [hfg]
    simpa using ha
  · show good (f (g a))
    rw [hfg]
    exact ga
theorem opens_imp {P : Program} {t : TypeId} {α : Type} {d : Kd α} {good good' : α → Prop} {n : Nat} (h : OpensAt P t d good n) (hg : ∀ x, good x → good' x) : OpensAt P t d good' n := by
  intro H enc w sp held cs x hx
  obtain ⟨a, ha, ga⟩ := h H enc w sp held cs x hx
  exact ⟨a, ha, hg a ga⟩
end Go.Proofs.Yteoljddobfnfiaa.My
end
section
namespace Go.Proofs.Yteoljddobfnfiaa.My
open Go.RowKit Go.WideShapes Go.Proofs.YteoljddobfnfiaaW.PrintWords Go.Proofs.Yteoljddobfnfiaa.PB
set_option linter.unusedVariables false
set_option linter.unusedSimpArgs false

theorem open_i (n : Nat) : OpensAt Try.prog 3 (Kd.int .i64) (fun a => (Lit.int .i64 a).wf = true) n := opens_int Try.underlying3 n
theorem open_s (n : Nat) : OpensAt Try.prog 9 Kd.string (fun s => s.size ≤ 9223372036854775807) n := opens_string (by kernel_rfl) n
theorem open38 (n : Nat) : OpensAt Try.prog 38 (Kd.slice 3 (Kd.int .i64)) (fun xs => xs.length ≤ 9223372036854775807 ∧ ∀ a ∈ xs, (Lit.int .i64 a).wf = true) n := opens_slice Try.underlying38 (by kernel_rfl) (fun m _ => open_i m)
theorem open50 (n : Nat) : OpensAt Try.prog 50 k50 (fun _ => True) n :=
  opens_imp (opens_struct (fun x : S50 => (x.f0, x.f1, x.f2)) (fun p => ⟨p.1, p.2.1, p.2.2⟩) (fun _ => rfl) Try.underlying50 (by kernel_rfl)
    (fun m _ => fields_cons rfl (by kernel_rfl) (open_s m) (fields_cons rfl (by kernel_rfl) (open_i m) (fields_one rfl (by kernel_rfl) (open_s m))))) (fun _ _ => trivial)
theorem open97 (n : Nat) : OpensAt Try.prog 97 k97 (fun _ => True) n :=
  opens_imp (opens_struct (fun x : S97 => (x.f0, x.f1, x.f2)) (fun p => ⟨p.1, p.2.1, p.2.2⟩) (fun _ => rfl) Try.underlying97 (by kernel_rfl)
    (fun m _ => fields_cons rfl (by kernel_rfl) (open_i m) (fields_cons rfl (by kernel_rfl) (open_i m) (fields_one rfl (by kernel_rfl) (open_s m))))) (fun _ _ => trivial)
theorem open93 (n : Nat) : OpensAt Try.prog 93 k93 (fun _ => True) n := by
  induction n using Nat.strongRecOn with
  | _ n ih =>
    have h : OpensAt Try.prog 93 (F93 k93) (fun _ => True) n :=
      opens_imp (opens_struct (fun x : S93 => (x.f0, x.f1, x.f2, x.f3)) (fun p => ⟨p.1, p.2.1, p.2.2.1, p.2.2.2⟩) (fun _ => rfl) Try.underlying93 (by kernel_rfl)
        (fun m hm => fields_cons rfl (by kernel_rfl) (open_i m) (fields_cons rfl (by kernel_rfl) (open_i m) (fields_cons rfl (by kernel_rfl) (open_s m)
          (fields_one rfl (by kernel_rfl) (opens_slice (t := 39) (e := 93) (d := k93) (good := fun _ => True) (by kernel_rfl) (by kernel_rfl) (fun j hj => ih j (by omega)))))))) (fun _ _ => trivial)
    intro H enc w sp held cs x hx
    obtain ⟨a, ⟨c0, r0, rfl, rfl, c1, r1, rfl, rfl, c2, r2, rfl, rfl, A, c, rfl, l, g⟩, _⟩ := h H enc w sp held cs x hx
    exact ⟨a, k93_mk w a l g, trivial⟩
theorem open99 (n : Nat) : OpensAt Try.prog 99 k99 (fun _ => True) n :=
  opens_imp (opens_struct (fun x : S99 => (x.f0, x.f1)) (fun p => ⟨p.1, p.2⟩) (fun _ => rfl) Try.underlying99 (by kernel_rfl)
    (fun m _ => fields_cons rfl (by kernel_rfl) (open93 m) (fields_one rfl (by kernel_rfl) (open_i m)))) (fun _ _ => trivial)
theorem open95 (n : Nat) : OpensAt Try.prog 95 k95 (fun _ => True) n :=
  opens_imp (opens_struct (fun x : S95 => (x.f0, x.f1, x.f2, x.f3)) (fun p => ⟨p.1, p.2.1, p.2.2.1, p.2.2.2⟩) (fun _ => rfl) Try.underlying95 (by kernel_rfl)
    (fun m _ => fields_cons rfl (by kernel_rfl) (open_s m) (fields_cons rfl (by kernel_rfl) (open38 m) (fields_cons rfl (by kernel_rfl) (open_i m) (fields_one rfl (by kernel_rfl) (open93 m)))))) (fun _ _ => trivial)
def good44 (x : S44) : Prop := x.f1.length ≤ 9223372036854775807 ∧ x.f14.length ≤ 9223372036854775807 ∧ x.f15.length ≤ 9223372036854775807 ∧ (Lit.int .i64 x.f0).wf = true ∧ (Lit.int .i64 x.f5).wf = true ∧ (Lit.int .i64 x.f6).wf = true ∧ (Lit.int .i64 x.f7).wf = true ∧ (Lit.int .i64 x.f10).wf = true ∧ (Lit.int .i64 x.f11).wf = true ∧ (Lit.int .i64 x.f12).wf = true
theorem open_sl {e s : TypeId} {α : Type} {d : Kd α} {good : α → Prop} (ht : Try.prog.underlying s = some (.slice e)) (hs : Try.prog.cellsOf e = d.sz) (h : ∀ n, OpensAt Try.prog e d good n) (n : Nat) : OpensAt Try.prog s (Kd.slice e d) (fun xs => xs.length ≤ 9223372036854775807 ∧ ∀ a ∈ xs, good a) n := opens_slice ht hs (fun m _ => h m)
theorem open44 (n : Nat) : OpensAt Try.prog 44 k44 good44 n :=
  opens_imp (opens_struct (fun x : S44 => (x.f0, x.f1, x.f2, x.f3, x.f4, x.f5, x.f6, x.f7, x.f8, x.f9, x.f10, x.f11, x.f12, x.f13, x.f14, x.f15))
      (fun ⟨p0, p1, p2, p3, p4, p5, p6, p7, p8, p9, p10, p11, p12, p13, p14, p15⟩ => ⟨p0, p1, p2, p3, p4, p5, p6, p7, p8, p9, p10, p11, p12, p13, p14, p15⟩) (fun _ => rfl) Try.underlying44 (by kernel_rfl)
    (fun m _ => fields_cons rfl (by kernel_rfl) (open_i m) <| fields_cons rfl (by kernel_rfl) (open38 m) <| fields_cons rfl (by kernel_rfl) (open_s m) <| fields_cons rfl (by kernel_rfl) (open_i m) <|
      fields_cons rfl (by kernel_rfl) (open_sl (e := 93) (d := k93) (by kernel_rfl) (by kernel_rfl) open93 m) <| fields_cons rfl (by kernel_rfl) (open_i m) <| fields_cons rfl (by kernel_rfl) (open_i m) <| fields_cons rfl (by kernel_rfl) (open_i m) <|
      fields_cons rfl (by kernel_rfl) (open38 m) <| fields_cons rfl (by kernel_rfl) (open38 m) <| fields_cons rfl (by kernel_rfl) (open_i m) <| fields_cons rfl (by kernel_rfl) (open_i m) <| fields_cons rfl (by kernel_rfl) (open_i m) <|
      fields_cons rfl (by kernel_rfl) (open_sl (e := 97) (d := k97) (by kernel_rfl) (by kernel_rfl) open97 m) <| fields_cons rfl (by kernel_rfl) (open_sl (e := 99) (d := k99) (by kernel_rfl) (by kernel_rfl) open99 m) <|
      fields_one rfl (by kernel_rfl) (open_sl (e := 50) (d := k50) (by kernel_rfl) (by kernel_rfl) open50 m)))
    (fun x ⟨h0, h1, h2, h3, h4, h5, h6, h7, h8, h9, h10, h11, h12, h13, h14, h15⟩ => ⟨h1.1, h14.1, h15.1, h0, h5, h6, h7, h10, h11, h12⟩)

theorem open_plan {H : Type} {enc : TypeId × Value → H} {w : World} {sp : Nat → Bool} {held : Bool} {r : Reach} {b0 : Nat} {v : Value} {d : DataW H} {p : List MemPlace}
    (hv : Value.okWide Try.prog w r b0 25 v) (h : DataW.Trod enc Try.prog w 0 sp held 25 v d p) :
    ∃ (A0 : Option Addr) (c0 : Nat) (F : List S95) (A1 : Option Addr) (c1 : Nat) (l : List S44), v = .agg #[.slice A0 F.length c0, .slice A1 l.length c1] ∧ Kd.C k95 w A0 F.length F ∧ F.length ≤ c0 ∧ Kd.C k44 w A1 l.length l ∧ l.length ≤ c1 ∧
      l.length ≤ 9223372036854775807 ∧ ∀ n ∈ l, good44 n := by
  obtain ⟨cs, rfl, hsz⟩ := okWide_struct Try.underlying25 hv
  obtain ⟨fuel, hf⟩ := h
  have ho : OpensAt Try.prog 25 (Kd.iso (Kd.pair (Kd.slice 95 k95) (Kd.slice 44 k44)) (fun x => x)) (fun x => (x.1.length ≤ 9223372036854775807 ∧ ∀ a ∈ x.1, True) ∧ x.2.length ≤ 9223372036854775807 ∧ ∀ a ∈ x.2, good44 a) fuel :=
    opens_struct (fun x => x) (fun p => p) (fun _ => rfl) Try.underlying25 (by kernel_rfl) (fun m _ => fields_cons rfl (by kernel_rfl) (open_sl (e := 95) (d := k95) (by kernel_rfl) (by kernel_rfl) open95 m) (fields_one rfl (by kernel_rfl) (open_sl (e := 44) (d := k44) (by kernel_rfl) (by kernel_rfl) open44 m)))
  obtain ⟨⟨F, l⟩, ⟨q0, q1, hq, ⟨A0, c0, rfl, l0, g0⟩, ⟨A1, c1, rfl, l1, g1⟩⟩, h1, h2, h3⟩ := ho H enc w sp held _ _ hf
  refine ⟨A0, c0, F, A1, c1, l, ?_, g0, l0, g1, l1, h2, h3⟩
  obtain ⟨cs⟩ := cs
  simp only [Value.cells] at hq
  subst hq
  rfl
theorem open_six {H : Type} {enc : TypeId × Value → H} {w : World} {sp : Nat → Bool} {held : Bool} {r : Reach} {b0 : Nat} {v : Value} {d : DataW H} {p : List MemPlace}
    (hv : Value.okWide Try.prog w r b0 27 v) (h : DataW.Trod enc Try.prog w 0 sp held 27 v d p) :
    ∃ a0 a1 a2 a3 a4 a5 : Int, v = .agg #[.int .i64 a0, .int .i64 a1, .int .i64 a2, .int .i64 a3, .int .i64 a4, .int .i64 a5] := by
  obtain ⟨cs, rfl, hsz⟩ := okWide_struct Try.underlying27 hv
  obtain ⟨fuel, hf⟩ := h
  have ho := opens_struct (d := Kd.pair (Kd.int .i64) (Kd.pair (Kd.int .i64) (Kd.pair (Kd.int .i64) (Kd.pair (Kd.int .i64) (Kd.pair (Kd.int .i64) (Kd.int .i64)))))) (fun x => x) (fun p => p) (fun _ => rfl) Try.underlying27 (by kernel_rfl) (n := fuel)
    (fun m _ => fields_cons rfl (by kernel_rfl) (open_i m) <| fields_cons rfl (by kernel_rfl) (open_i m) <| fields_cons rfl (by kernel_rfl) (open_i m) <| fields_cons rfl (by kernel_rfl) (open_i m) <| fields_cons rfl (by kernel_rfl) (open_i m) <| fields_one rfl (by kernel_rfl) (open_i m))
  obtain ⟨⟨a0, a1, a2, a3, a4, a5⟩, ⟨q0, r0, h0, rfl, q1, r1, rfl, rfl, q2, r2, rfl, rfl, q3, r3, rfl, rfl, q4, r4, rfl, rfl, rfl⟩, _⟩ := ho H enc w sp held _ _ hf
  refine ⟨a0, a1, a2, a3, a4, a5, ?_⟩
  obtain ⟨cs⟩ := cs
  simp only [Value.cells] at h0
  subst h0
  rfl
end Go.Proofs.Yteoljddobfnfiaa.My
namespace Go.Proofs.Yteoljddobfnfiaa.My
open Go.RowKit Go.WideShapes Go.Proofs.YteoljddobfnfiaaW.PrintWords Go.Proofs.Yteoljddobfnfiaa.PB
end Go.Proofs.Yteoljddobfnfiaa.My
end
section
namespace Go.Proofs.Yteoljddobfnfiaa.boundsRefuse
open Go.ChangeShapes Go.WideShapes Go.ChangeAt Go.RowKit
set_option linter.unusedVariables false
theorem own : ownKnob Try.prog.godebug = none := by kernel_rfl
theorem laidOut : laidOutB Try.prog = true := by kernel_rfl
set_option maxRecDepth 100000 in
theorem lifted (os : Os) (started : os.Started) (H : Type) (enc : TypeId × Value → H) :
    ReturnsInHanded {} Try.checked os 5 .any (Rows.boundsRefuseSpec.pre6 enc Try.prog Try.f5 Rows.boundsRefuseRow.domain false) (Rows.boundsRefuseSpec.post enc Try.prog Try.f5 false true false false) := by
  refine returnsInHanded_of_change_sized (C := Try.checked) own started (by kernel_rfl) Try.func5
    (ChangeSpec.witness6 (enc := enc) (C := Try.checked) false ⟨#[], #[.agg #[.slice none 0 0, .slice none 0 0], .agg #[.int .i64 0, .int .i64 0, .int .i64 0, .int .i64 0, .int .i64 0, .int .i64 0], .int .i64 0, .int .i64 0], []⟩ 8 (by kernel_rfl) (by kernel_rfl) (by kernel_rfl) (by kernel_rfl)) ?_
  intro W base args ds gs before hval0 hW hcnd hsz0 _
  have hval : ∀ (j : Nat) t v, Try.f5.params[j]? = some t → args[j]? = some v → Value.okWide Try.prog W .any base t v := hval0
  have hW' := hW
  obtain ⟨p, q, hA0, hV, rfl, hfz, hnd⟩ := hW
  have hA : DataW.TrodAll enc Try.prog W 0 (fun _ => true) true Try.f5.params.toList args.toList ds p := hA0
  rw [Try.params5] at hA hval
  obtain ⟨v0, vs0, d0, ds0, p0, q0, hargs, rfl, rfl, h0, r0⟩ := trodAll_cons hA
  obtain ⟨v1, vs1, d1, ds1, p1, q1, rfl, rfl, rfl, h1, r1⟩ := trodAll_cons r0
  obtain ⟨v2, vs2, d2, ds2, p2, q2, rfl, rfl, rfl, h2, r2⟩ := trodAll_cons r1
  obtain ⟨v3, vs3, d3, ds3, p3, q3, rfl, rfl, rfl, h3, r3⟩ := trodAll_cons r2
  obtain ⟨rfl, rfl, rfl⟩ := trodAll_nil r3
  obtain rfl : args = #[v0, v1, v2, v3] := by cases args; simp_all
  obtain ⟨rfl, rfl⟩ := trodVars_none hV
  have lt0 : ∀ x ∈ p0, x.block < W.heap.size := by obtain ⟨m, hm⟩ := h0; exact DataW.trod_lt m _ _ _ hm
  have lt1 : ∀ x ∈ p1, x.block < W.heap.size := by obtain ⟨m, hm⟩ := h1; exact DataW.trod_lt m _ _ _ hm
  obtain ⟨A0, c0, F, A1, c1, l, rfl, g0, k0, g1, k1, hl, hg⟩ := My.open_plan (hval 0 25 v0 rfl rfl) h0
  obtain ⟨a0, a1, a2, a3, a4, a5, rfl⟩ := My.open_six (hval 1 27 v1 rfl rfl) h1
  obtain ⟨n2, rfl, rfl, rfl, w2⟩ := open_int Try.underlying3 (hval 2 3 v2 rfl rfl) h2
  obtain ⟨n3, rfl, rfl, rfl, w3⟩ := open_int Try.underlying3 (hval 3 3 v3 rfl rfl) h3
  clear hA0 hval0 hsz0
  refine (PB.refuse_calls A0 c0 F A1 c1 l a0 a1 a2 a3 a4 a5 n2 n3 W g0 k0 g1 k1 hl (fun n hn => (hg n hn).1)).mono fun e W' ⟨he, bel⟩ => ?_
  subst he
  exact ⟨_, rfl, _, _, _, [], _, [], hW', trodAll_mk1 (shut_bool Try.underlying4 _), (trodAll_cons_mk (Below.trod laidOut (by kernel_rfl) (of_decide_eq_true (by kernel_rfl)) h0 bel lt0) (trodAll_cons_mk (Below.trod laidOut (by kernel_rfl) (of_decide_eq_true (by kernel_rfl)) h1 bel lt1) (trodAll_cons_mk (shut_int Try.underlying3 w2) (trodAll_cons_mk (shut_int Try.underlying3 w3) trodAll_mk0)))), rfl, bel.frame _, fun h => by cases h⟩
theorem over : Rows.boundsRefuseRow.holds Try.pinned (OpenSpec.ofChange Rows.boundsRefuseSpec) :=
  OpenClaim.holds_of_wide 5 Try.f5 rfl rfl rfl rfl rfl rfl rfl ⟨rfl, rfl, rfl, rfl, rfl⟩ rfl rfl rfl rfl rfl (by kernel_rfl) Try.func5 (by kernel_rfl)
    (of_decide_eq_true (by kernel_rfl)) (by unfold Func.isWrapper; first | (rw [if_pos (by decide +kernel)]; kernel_rfl) | (rw [if_neg (by decide +kernel)]; exact ⟨rfl, rfl⟩))
    (fun os started H enc _ => lifted os started H enc)
theorem proved : Rows.BoundsRefuseSaid := over
#print axioms proved
end Go.Proofs.Yteoljddobfnfiaa.boundsRefuse
namespace Go.Proofs.Yteoljddobfnfiaa
theorem boundsRefuse_holds : Rows.BoundsRefuseSaid := boundsRefuse.proved
end Go.Proofs.Yteoljddobfnfiaa
end
