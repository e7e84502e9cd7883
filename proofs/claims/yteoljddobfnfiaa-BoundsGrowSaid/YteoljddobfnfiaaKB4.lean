/- Part 4 of a proof: texts of this claim, joined by a program of this session's work; what is proved stands in the last part. No condition. -/
import Derived.Test.YteoljddobfnfiaaKB3
section
namespace Go.Proofs.Yteoljddobfnfiaa.Pure
open Go.RowKit Go.Proofs.YteoljddobfnfiaaW.PrintWords Go.Proofs.YteoljddobfnfiaaW.PrintLast Go.Proofs.YteoljddobfnfiaaW.PrintMore Go.Proofs.Yteoljddobfnfiaa.PB
set_option linter.unusedVariables false
set_option linter.unusedSimpArgs false

theorem mx_le {a b c : Int} (h1 : a ≤ c) (h2 : b ≤ c) : mx a b ≤ c := by unfold mx; split <;> assumption
theorem le_mx {a b c : Int} (h1 : c ≤ a) : c ≤ mx a b := by unfold mx; split <;> omega
theorem mn_le (a b : Int) : mn a b ≤ b := by unfold mn; split <;> omega
theorem le_mn {a b c : Int} (h1 : c ≤ a) (h2 : c ≤ b) : c ≤ mn a b := by unfold mn; split <;> omega
theorem mul_pos1 {a b : Int} (h1 : 1 ≤ a) (h2 : 1 ≤ b) : 1 ≤ a * b := by
  have := Int.mul_le_mul h1 h2 (by omega) (by omega)
  omega
theorem mul_nn {a b : Int} (h1 : 0 ≤ a) (h2 : 0 ≤ b) : 0 ≤ a * b := Int.mul_nonneg h1 h2

theorem times_eq {a b : Int} (ha : 0 ≤ a) (hm : a ≤ 1099511627776) (hb : 0 ≤ b) : bounds_times.f a b = some (mn (a * b) 1099511627776) := by
  unfold bounds_times.f
  by_cases h0 : a = 0
  · subst h0
    rw [if_pos rfl, Int.zero_mul, wrap_id (by omega) (by omega)]
    unfold mn
    rw [if_neg (by omega)]
  · rw [if_neg h0, Int.tdiv_eq_ediv_of_nonneg (by omega)]
    have hq : (1099511627776 : Int) / a ≤ 1099511627776 := Int.ediv_le_self _ (by omega)
    have hq0 : 0 ≤ (1099511627776 : Int) / a := Int.ediv_nonneg (by omega) (by omega)
    rw [wrap_id (by omega) (by omega)]
    by_cases h1 : b > 1099511627776 / a
    · rw [if_pos h1]
      have : 1099511627776 < b * a := (Int.ediv_lt_iff_lt_mul (by omega)).1 h1
      rw [Int.mul_comm b a] at this
      unfold mn
      rw [if_pos this]
    · rw [if_neg h1]
      have : b * a ≤ 1099511627776 := (Int.le_ediv_iff_mul_le (by omega)).1 (by omega)
      rw [Int.mul_comm b a] at this
      have h2 := mul_nn ha hb
      rw [wrap_id (by omega) (by omega)]
      unfold mn
      rw [if_neg (by omega)]
theorem plus_eq {a b : Int} (ha : 0 ≤ a) (hm : a ≤ 1099511627776) (hb : 0 ≤ b) (hn : b ≤ 1099511627776) : bounds_plus.f a b = some (mn (a + b) 1099511627776) := by
  unfold bounds_plus.f
  rw [wrap_id (by omega) (by omega)]

def backOf (bs : List S37) (l : List Int) (b : Int) : Int := l.foldl (fun s x => mx s (rd_T37 bs x).f0) b
def foreOf (bs : List S37) (l : List Int) (b : Int) : Int := l.foldl (fun s x => mx s (rd_T37 bs x).f1) b
def stOf (bs : List S37) (c5 o : Int) (l : List Int) (b : Int) : Int := l.foldl (fun s x => mn (s + mn ((rd_T37 bs x).f2 * (c5 + (rd_T37 bs x).f1 + o)) 1099511627776) 1099511627776) b
def rateOf (bs : List S37) (c0 c4 : Int) (n : S44) : Int :=
  if n.f0 = 0 then c0 * c4
  else if n.f0 = 3 then mn ((rd_T37 bs (rd n.f1 0)).f2 + (rd_T37 bs (rd n.f1 1)).f2) 1099511627776
  else if n.f0 = 4 ∨ n.f0 = 5 then mn ((rd_T37 bs (rd n.f1 0)).f2 * n.f6) 1099511627776
  else if n.f0 = 6 then mn (mn ((rd_T37 bs (rd n.f1 0)).f2 * (rd_T37 bs (rd n.f1 1)).f2) 1099511627776 * (n.f10 + n.f11 + 2)) 1099511627776
  else (rd_T37 bs (rd n.f1 0)).f2
def boundOf (bs : List S37) (c0 c4 c5 : Int) (n : S44) : S37 :=
  ⟨backOf bs n.f1 0 + ownB n, foreOf bs n.f1 0 + ownF n, rateOf bs c0 c4 n, if 4 ≤ n.f0 then stOf bs c5 (ownB n) n.f1 0 else 0⟩

def okB (i : Int) (b : S37) : Prop := (0 ≤ b.f0 ∧ b.f0 ≤ 10000 * i) ∧ (0 ≤ b.f1 ∧ b.f1 ≤ 10000 * i) ∧ (1 ≤ b.f2 ∧ b.f2 ≤ 1099511627776) ∧ 0 ≤ b.f3 ∧ b.f3 ≤ 1099511627776
def pre (i : Int) (bs : List S37) : Prop := (bs.length : Int) = i ∧ ∀ b ∈ bs, okB i b
theorem rd37_at {l : List S37} {i : Nat} (h : i < l.length) : rd_T37 l (i : Int) = l[i] := by
  unfold rd_T37
  simp [List.getD_eq_getElem?_getD, List.getElem?_eq_getElem h]
theorem pre_at {i x : Int} {bs : List S37} (h : pre i bs) (h0 : 0 ≤ x) (h1 : x < i) : okB i (rd_T37 bs x) := by
  have hx : x.toNat < bs.length := by have := h.1; omega
  have e : ((x.toNat : Nat) : Int) = x := Int.toNat_of_nonneg h0
  rw [← e, rd37_at hx]
  exact h.2 _ (List.getElem_mem hx)
theorem okIn_mem {i : Int} {l : List Int} (h : okIn i l = true) {x : Int} (hx : x ∈ l) : 0 ≤ x ∧ x < i := by
  have := List.all_eq_true.1 h x hx
  exact of_decide_eq_true this
theorem backOf_range {i : Int} {bs : List S37} (h : pre i bs) : ∀ (l : List Int) (b : Int), okIn i l = true → (0 ≤ b ∧ b ≤ 10000 * i) → 0 ≤ backOf bs l b ∧ backOf bs l b ≤ 10000 * i
  | [], b, _, hb => hb
  | x :: l, b, hl, hb => by
    have hx := okIn_mem hl (List.mem_cons_self)
    have ho := pre_at h hx.1 hx.2
    exact backOf_range h l _ (by rw [okIn_cons] at hl; exact (Bool.and_eq_true_iff.1 hl).2) ⟨le_mx hb.1, mx_le hb.2 ho.1.2⟩
theorem foreOf_range {i : Int} {bs : List S37} (h : pre i bs) : ∀ (l : List Int) (b : Int), okIn i l = true → (0 ≤ b ∧ b ≤ 10000 * i) → 0 ≤ foreOf bs l b ∧ foreOf bs l b ≤ 10000 * i
  | [], b, _, hb => hb
  | x :: l, b, hl, hb => by
    have hx := okIn_mem hl (List.mem_cons_self)
    have ho := pre_at h hx.1 hx.2
    exact foreOf_range h l _ (by rw [okIn_cons] at hl; exact (Bool.and_eq_true_iff.1 hl).2) ⟨le_mx hb.1, mx_le hb.2 ho.2.1.2⟩
theorem stOf_range {i c5 o : Int} {bs : List S37} (h : pre i bs) (hc : 0 ≤ c5) (ho : 0 ≤ o) : ∀ (l : List Int) (b : Int), okIn i l = true → (0 ≤ b ∧ b ≤ 1099511627776) → 0 ≤ stOf bs c5 o l b ∧ stOf bs c5 o l b ≤ 1099511627776
  | [], b, _, hb => hb
  | x :: l, b, hl, hb => by
    have hx := okIn_mem hl (List.mem_cons_self)
    have hk := pre_at h hx.1 hx.2
    have h1 : 0 ≤ (rd_T37 bs x).f2 * (c5 + (rd_T37 bs x).f1 + o) := mul_nn (by have := hk.2.2.1.1; omega) (by have := hk.2.1.1; omega)
    have h2 := le_mn h1 (show (0 : Int) ≤ 1099511627776 by omega)
    exact stOf_range h hc ho l _ (by rw [okIn_cons] at hl; exact (Bool.and_eq_true_iff.1 hl).2) ⟨le_mn (by omega) (by omega), mn_le _ _⟩
theorem node_ins {i : Int} {n : S44} (h : okNode i n = true) : (0 ≤ n.f0 ∧ n.f0 ≤ 8) ∧ (n.f1.length : Int) = ins n.f0 ∧ okIn i n.f1 = true := by
  unfold okNode at h
  simp only [Bool.and_eq_true, decide_eq_true_eq] at h
  exact ⟨h.1, h.2.1, h.2.2⟩
theorem ins1 {n : S44} (h : (n.f1.length : Int) = ins n.f0) (h0 : n.f0 ≠ 0) : 0 < n.f1.length := by
  unfold ins at h
  rw [if_neg h0] at h
  split at h <;> omega
theorem ins2 {n : S44} (h : (n.f1.length : Int) = ins n.f0) (h0 : n.f0 = 3 ∨ n.f0 = 6 ∨ n.f0 = 7) : 1 < n.f1.length := by
  unfold ins at h
  rw [if_neg (by omega), if_pos h0] at h
  omega
theorem ins_le (op : Int) : ins op ≤ 2 := by unfold ins; split <;> (try split) <;> omega
theorem in_at {i : Int} {l : List Int} (h : okIn i l = true) {j : Nat} (hj : j < l.length) : 0 ≤ rd l (j : Int) ∧ rd l (j : Int) < i := by
  rw [rd_at hj]
  exact okIn_mem h (List.getElem_mem hj)
theorem rateOf_range {i c0 c4 : Int} {bs : List S37} {n : S44} (h : pre i bs) (hn : okNode i n = true) (hb : bdd n = true) (h0 : 1 ≤ c0 ∧ c0 ≤ 8) (h4 : 1 ≤ c4 ∧ c4 ≤ 20) : 1 ≤ rateOf bs c0 c4 n ∧ rateOf bs c0 c4 n ≤ 1099511627776 := by
  obtain ⟨ho, hi, hl⟩ := node_ins hn
  unfold rateOf
  by_cases e0 : n.f0 = 0
  · rw [if_pos e0]
    refine ⟨mul_pos1 h0.1 h4.1, ?_⟩
    have := Int.mul_le_mul h0.2 h4.2 (by omega) (by omega)
    omega
  rw [if_neg e0]
  have a0 := in_at hl (ins1 hi e0)
  have k0 := pre_at h a0.1 a0.2
  have k0' : okB i (rd_T37 bs (rd n.f1 0)) := k0
  by_cases e3 : n.f0 = 3
  · rw [if_pos e3]
    have a1 := in_at hl (ins2 hi (by omega))
    have k1' : okB i (rd_T37 bs (rd n.f1 1)) := pre_at h a1.1 a1.2
    exact ⟨le_mn (by have := k0'.2.2.1.1; have := k1'.2.2.1.1; omega) (by omega), mn_le _ _⟩
  rw [if_neg e3]
  by_cases e4 : n.f0 = 4 ∨ n.f0 = 5
  · rw [if_pos e4]
    have hs := bdd_size n hb (by omega)
    exact ⟨le_mn (mul_pos1 k0'.2.2.1.1 hs.1) (by omega), mn_le _ _⟩
  rw [if_neg e4]
  by_cases e6 : n.f0 = 6
  · rw [if_pos e6]
    have a1 := in_at hl (ins2 hi (by omega))
    have k1' : okB i (rd_T37 bs (rd n.f1 1)) := pre_at h a1.1 a1.2
    have hj := bdd_join n hb e6
    exact ⟨le_mn (mul_pos1 (le_mn (mul_pos1 k0'.2.2.1.1 k1'.2.2.1.1) (by omega)) (by omega)) (by omega), mn_le _ _⟩
  rw [if_neg e6]
  exact k0'.2.2.1
theorem boundOf_ok {i c0 c4 c5 : Int} {bs : List S37} {n : S44} (hi0 : 0 ≤ i) (h : pre i bs) (hn : okNode i n = true) (hb : bdd n = true) (h0 : 1 ≤ c0 ∧ c0 ≤ 8) (h4 : 1 ≤ c4 ∧ c4 ≤ 20) (h5 : 0 ≤ c5) : okB (i + 1) (boundOf bs c0 c4 c5 n) := by
  obtain ⟨ho, hi, hl⟩ := node_ins hn
  have r1 := backOf_range h n.f1 0 hl (by omega)
  have r2 := foreOf_range h n.f1 0 hl (by omega)
  have r3 := rateOf_range h hn hb h0 h4
  have w := own_range n
  have r4 := stOf_range h h5 w.1 n.f1 0 hl (by omega)
  unfold boundOf okB
  refine ⟨⟨by dsimp only; omega, by dsimp only; omega⟩, ⟨by dsimp only; omega, by dsimp only; omega⟩, r3, ?_⟩
  dsimp only
  split
  · exact r4
  · omega
theorem pre_snoc {i : Int} {bs : List S37} {b : S37} (h : pre i bs) (hb : okB (i + 1) b) : pre (i + 1) (bs ++ [b]) := by
  refine ⟨by have := h.1; simp; omega, fun x hx => ?_⟩
  rcases List.mem_append.1 hx with hx | hx
  · have := h.2 x hx
    unfold okB at this ⊢
    omega
  · rw [List.mem_singleton.1 hx]
    exact hb

theorem rd_map {g : Int → Int} {l : List Int} {j : Nat} (hj : j < l.length) : rd (l.map g) (j : Int) = g (rd l (j : Int)) := by
  rw [rd_at (by simpa using hj), rd_at hj]
  simp

theorem bound_end (k : Nat) {i c0 c1 c2 c3 c4 c5 : Int} {bs : List S37} (n : S44) (hn : okNode i n = true) (h : pre i bs) (hi : 0 ≤ i ∧ i ≤ 40) (hb : bdd n = true) (h0 : 1 ≤ c0 ∧ c0 ≤ 8) (h4 : 1 ≤ c4 ∧ c4 ≤ 20)
    (b f s o1 o2 : Int) (x0 x1 : Option Nat) (x2 : Int) (kp : Bool) (ho : 0 ≤ o1 ∧ o1 ≤ 10000) (ho2 : 0 ≤ o2 ∧ o2 ≤ 10000) (hbb : 0 ≤ b ∧ b ≤ 10000 * i) (hff : 0 ≤ f ∧ f ≤ 10000 * i) :
    bounds_bound.l0 (k + 2) bs o1 o2 (n.f1.map fun x => (rd_T37 bs x).f2) n.f1 (n.f1.length : Int) (n.f1.length : Int) n.f0 n.f1 n.f2 n.f3 n.f4 n.f5 n.f6 n.f7 n.f8 n.f9 n.f10 n.f11 n.f12 n.f13 n.f14 n.f15 c0 c1 c2 c3 c4 c5 b f 0 s x2 x0 x1 kp = some (b + o1, f + o2, rateOf bs c0 c4 n, s) := by
  obtain ⟨hop, hin, hl⟩ := node_ins hn
  have hr := rateOf_range h hn hb h0 h4
  simp only [bounds_bound.l0]
  rw [if_neg (Int.lt_irrefl _), wrap_id (n := b + o1) (by omega) (by omega), wrap_id (n := f + o2) (by omega) (by omega)]
  by_cases e0 : n.f0 = 0
  · have : rateOf bs c0 c4 n = c0 * c4 := by unfold rateOf; rw [if_pos e0]
    rw [if_pos e0, ← this, wrap_id (by omega) (by omega)]
  rw [if_neg e0]
  have l0 := ins1 hin e0
  have a0 := in_at hl l0
  have k0 : okB i (rd_T37 bs (rd n.f1 0)) := pre_at h a0.1 a0.2
  have m0 : rd (n.f1.map fun x => (rd_T37 bs x).f2) 0 = (rd_T37 bs (rd n.f1 0)).f2 := rd_map (g := fun x => (rd_T37 bs x).f2) l0
  have q0 : (0 : Int) < ((n.f1.map fun x => (rd_T37 bs x).f2).length : Int) := by rw [List.length_map]; omega
  by_cases e3 : n.f0 = 3
  · have l1 := ins2 hin (by omega)
    have a1 := in_at hl l1
    have k1 : okB i (rd_T37 bs (rd n.f1 1)) := pre_at h a1.1 a1.2
    have m1 : rd (n.f1.map fun x => (rd_T37 bs x).f2) 1 = (rd_T37 bs (rd n.f1 1)).f2 := rd_map (g := fun x => (rd_T37 bs x).f2) l1
    rw [if_pos e3, if_pos q0, if_pos (by rw [List.length_map]; omega), m0, m1, plus_eq (by have := k0.2.2.1; omega) k0.2.2.1.2 (by have := k1.2.2.1; omega) k1.2.2.1.2]
    have : rateOf bs c0 c4 n = mn ((rd_T37 bs (rd n.f1 0)).f2 + (rd_T37 bs (rd n.f1 1)).f2) 1099511627776 := by unfold rateOf; rw [if_neg e0, if_pos e3]
    rw [this]
    rfl
  rw [if_neg e3]
  by_cases e4 : n.f0 = 4 ∨ n.f0 = 5
  · have hs := bdd_size n hb (by omega)
    have hr' : rateOf bs c0 c4 n = mn ((rd_T37 bs (rd n.f1 0)).f2 * n.f6) 1099511627776 := by unfold rateOf; rw [if_neg e0, if_neg e3, if_pos e4]
    rcases e4 with e4 | e4
    · rw [if_pos e4]
      simp only [bounds_bound.j1]
      rw [if_pos (by rw [e4]; rfl), if_pos q0, m0, times_eq (by have := k0.2.2.1; omega) k0.2.2.1.2 (by omega), hr']
      rfl
    · rw [if_neg (by omega)]
      simp only [bounds_bound.j1]
      rw [if_pos (by rw [e4]; rfl), if_pos q0, m0, times_eq (by have := k0.2.2.1; omega) k0.2.2.1.2 (by omega), hr']
      rfl
  rw [if_neg (by omega)]
  simp only [bounds_bound.j1]
  rw [if_neg (by simp; omega)]
  by_cases e6 : n.f0 = 6
  · have l1 := ins2 hin (by omega)
    have a1 := in_at hl l1
    have k1 : okB i (rd_T37 bs (rd n.f1 1)) := pre_at h a1.1 a1.2
    have m1 : rd (n.f1.map fun x => (rd_T37 bs x).f2) 1 = (rd_T37 bs (rd n.f1 1)).f2 := rd_map (g := fun x => (rd_T37 bs x).f2) l1
    have hj := bdd_join n hb e6
    have hr' : rateOf bs c0 c4 n = mn (mn ((rd_T37 bs (rd n.f1 0)).f2 * (rd_T37 bs (rd n.f1 1)).f2) 1099511627776 * (n.f10 + n.f11 + 2)) 1099511627776 := by unfold rateOf; rw [if_neg e0, if_neg e3, if_neg e4, if_pos e6]
    have hp := mul_pos1 k0.2.2.1.1 k1.2.2.1.1
    rw [if_pos e6, if_pos q0, if_pos (by rw [List.length_map]; omega), m0, m1, times_eq (by have := k0.2.2.1; omega) k0.2.2.1.2 (by have := k1.2.2.1; omega), Option.bind_some,
      wrap_id (n := n.f10 + n.f11) (by omega) (by omega), wrap_id (n := n.f10 + n.f11 + 2) (by omega) (by omega), times_eq (le_mn (by omega) (by omega)) (mn_le _ _) (by omega), Option.bind_some, hr']
  rw [if_neg e6, if_pos q0, m0]
  have hr' : rateOf bs c0 c4 n = (rd_T37 bs (rd n.f1 0)).f2 := by unfold rateOf; rw [if_neg e0, if_neg e3, if_neg e4, if_neg e6]
  rw [hr']
theorem bound_l0 {i c0 c1 c2 c3 c4 c5 : Int} {bs : List S37} (n : S44) (hn : okNode i n = true) (h : pre i bs) (hi : 0 ≤ i ∧ i ≤ 40) (hb : bdd n = true) (h0 : 1 ≤ c0 ∧ c0 ≤ 8) (h4 : 1 ≤ c4 ∧ c4 ≤ 20) (h5 : 0 ≤ c5 ∧ c5 ≤ 30000)
    (o1 o2 : Int) (x0 x1 : Option Nat) (x2 : Int) (kp : Bool) (ho : 0 ≤ o1 ∧ o1 ≤ 10000) (ho2 : 0 ≤ o2 ∧ o2 ≤ 10000) : ∀ d j : Nat, j + d = n.f1.length → ∀ b f s : Int, (0 ≤ b ∧ b ≤ 10000 * i) → (0 ≤ f ∧ f ≤ 10000 * i) → (0 ≤ s ∧ s ≤ 1099511627776) →
    Ev (fun k => bounds_bound.l0 k bs o1 o2 ((n.f1.take j).map fun x => (rd_T37 bs x).f2) n.f1 (n.f1.length : Int) (j : Int) n.f0 n.f1 n.f2 n.f3 n.f4 n.f5 n.f6 n.f7 n.f8 n.f9 n.f10 n.f11 n.f12 n.f13 n.f14 n.f15 c0 c1 c2 c3 c4 c5 b f 0 s x2 x0 x1 kp)
      (backOf bs (n.f1.drop j) b + o1, foreOf bs (n.f1.drop j) f + o2, rateOf bs c0 c4 n, if kp = true then stOf bs c5 o1 (n.f1.drop j) s else s)
  | 0, j, hj, b, f, s, hbb, hff, hss => by
    have ej : j = n.f1.length := by omega
    subst ej
    refine ⟨2, fun k hk => ?_⟩
    obtain ⟨k, rfl⟩ := Nat.exists_eq_add_of_le' hk
    dsimp only
    rw [List.take_length, bound_end k n hn h hi hb h0 h4 b f s o1 o2 x0 x1 x2 kp ho ho2 hbb hff, List.drop_length]
    simp [backOf, foreOf, stOf]
  | d + 1, j, hj, b, f, s, hbb, hff, hss => by
    obtain ⟨hop, hin, hl⟩ := node_ins hn
    have hjl : j < n.f1.length := by omega
    have e : n.f1.drop j = n.f1[j] :: n.f1.drop (j + 1) := List.drop_eq_getElem_cons hjl
    have hx := okIn_mem hl (List.getElem_mem hjl)
    have hk := pre_at h hx.1 hx.2
    have il := ins_le n.f0
    have ht : ((n.f1.take j).map fun x => (rd_T37 bs x).f2) ++ [(rd_T37 bs n.f1[j]).f2] = (n.f1.take (j + 1)).map fun x => (rd_T37 bs x).f2 := by
      rw [List.take_succ_eq_append_getElem hjl, List.map_append]
      rfl
    have hm : 0 ≤ (rd_T37 bs n.f1[j]).f2 * (c5 + (rd_T37 bs n.f1[j]).f1 + o1) := mul_nn (by have := hk.2.2.1.1; omega) (by have := hk.2.1.1; omega)
    have hm2 := le_mn hm (show (0 : Int) ≤ 1099511627776 by omega)
    have hm3 := mn_le ((rd_T37 bs n.f1[j]).f2 * (c5 + (rd_T37 bs n.f1[j]).f1 + o1)) 1099511627776
    have hlen : ((n.f1.take j).map fun x => (rd_T37 bs x).f2).length < 17592186044416 := by rw [List.length_map, List.length_take]; omega
    cases kp with
    | true =>
      have ih := bound_l0 n hn h hi hb h0 h4 h5 o1 o2 x0 x1 x2 true ho ho2 d (j + 1) (by omega) (mx b (rd_T37 bs n.f1[j]).f0) (mx f (rd_T37 bs n.f1[j]).f1) (mn (s + mn ((rd_T37 bs n.f1[j]).f2 * (c5 + (rd_T37 bs n.f1[j]).f1 + o1)) 1099511627776) 1099511627776)
        ⟨le_mx hbb.1, mx_le hbb.2 hk.1.2⟩ ⟨le_mx hff.1, mx_le hff.2 hk.2.1.2⟩ ⟨le_mn (by omega) (by omega), mn_le _ _⟩ (c1 := c1) (c2 := c2) (c3 := c3)
      refine Ev.step (fun k => ?_) (by rw [e]; exact ih)
      simp only [bounds_bound.l0]
      rw [if_pos (by omega), if_pos (by omega), if_pos (by omega), rd_at hjl, if_pos hx.1, if_pos (by have := h.1; omega), if_pos hlen, Option.bind_some, if_pos trivial,
        wrap_id (n := c5 + _) (by have := hk.2.1; omega) (by have := hk.2.1; omega), wrap_id (n := c5 + _ + o1) (by have := hk.2.1; omega) (by have := hk.2.1; omega),
        times_eq (by have := hk.2.2.1; omega) hk.2.2.1.2 (by have := hk.2.1; omega), Option.bind_some, plus_eq hss.1 hss.2 hm2 hm3, Option.bind_some, wrap_id (n := (j : Int) + 1) (by omega) (by omega), ht, cast_succ]
    | false =>
      have ih := bound_l0 n hn h hi hb h0 h4 h5 o1 o2 x0 x1 x2 false ho ho2 d (j + 1) (by omega) (mx b (rd_T37 bs n.f1[j]).f0) (mx f (rd_T37 bs n.f1[j]).f1) s
        ⟨le_mx hbb.1, mx_le hbb.2 hk.1.2⟩ ⟨le_mx hff.1, mx_le hff.2 hk.2.1.2⟩ hss (c1 := c1) (c2 := c2) (c3 := c3)
      refine Ev.step (fun k => ?_) (by rw [e]; exact ih)
      simp only [bounds_bound.l0]
      rw [if_pos (by omega), if_pos (by omega), if_pos (by omega), rd_at hjl, if_pos hx.1, if_pos (by have := h.1; omega), if_pos hlen, Option.bind_some, if_neg (by decide), wrap_id (n := (j : Int) + 1) (by omega) (by omega), ht, cast_succ]
theorem bound_ev {i c0 c1 c2 c3 c4 c5 : Int} {bs : List S37} (n : S44) (hn : okNode i n = true) (h : pre i bs) (hi : 0 ≤ i ∧ i ≤ 40) (hb : bdd n = true) (h0 : 1 ≤ c0 ∧ c0 ≤ 8) (h4 : 1 ≤ c4 ∧ c4 ≤ 20) (h5 : 0 ≤ c5 ∧ c5 ≤ 30000) :
    Ev (fun k => bounds_bound.f k n.f0 n.f1 n.f2 n.f3 n.f4 n.f5 n.f6 n.f7 n.f8 n.f9 n.f10 n.f11 n.f12 n.f13 n.f14 n.f15 bs c0 c1 c2 c3 c4 c5) ((boundOf bs c0 c4 c5 n).f0, (boundOf bs c0 c4 c5 n).f1, (boundOf bs c0 c4 c5 n).f2, (boundOf bs c0 c4 c5 n).f3) := by
  obtain ⟨hop, hin, hl⟩ := node_ins hn
  have w := own_range n
  have := bound_l0 n hn h hi hb h0 h4 h5 (ownB n) (ownF n) (bounds_of.f n.f0).get!.2.1 (bounds_of.f n.f0).get!.2.2.1 (ins n.f0) (decide (4 ≤ n.f0 ∧ n.f0 ≤ 8)) ⟨w.1, w.2.1⟩ w.2.2 n.f1.length 0 (by omega) 0 0 0 (by omega) (by omega) (by omega) (c1 := c1) (c2 := c2) (c3 := c3)
  have e2 : (if decide (4 ≤ n.f0 ∧ n.f0 ≤ 8) = true then stOf bs c5 (ownB n) (n.f1.drop 0) 0 else 0) = (boundOf bs c0 c4 c5 n).f3 := by
    unfold boundOf
    dsimp only
    by_cases e : 4 ≤ n.f0
    · rw [if_pos (decide_eq_true ⟨e, hop.2⟩), if_pos e, List.drop_zero]
    · rw [if_neg (by simp; omega), if_neg e]
  rw [e2] at this
  refine Ev.congr (fun k => ?_) this
  unfold bounds_bound.f
  rw [Own_eq, Option.bind_some, of_eq, Option.bind_some, if_pos hop]
  rfl
end Go.Proofs.Yteoljddobfnfiaa.Pure
end
section
namespace Go.Proofs.Yteoljddobfnfiaa.PB
open Go.RowKit Go.Proofs.YteoljddobfnfiaaW.PrintWords Go.Proofs.YteoljddobfnfiaaW.PrintLast Go.Proofs.YteoljddobfnfiaaW.PrintMore
attribute [local go_sem] max2_int min2_int max_two min_two max_three min_three max_four min_four
attribute [local go_sem ↓ high] Go.Proofs.Yteoljddobfnfiaa.My.ld44_eq Go.Proofs.Yteoljddobfnfiaa.My.st44_eq Go.Proofs.Yteoljddobfnfiaa.My.ld27_eq Go.Proofs.Yteoljddobfnfiaa.My.st27_eq Go.Proofs.Yteoljddobfnfiaa.My.ld37_eq Go.Proofs.Yteoljddobfnfiaa.My.st37_eq Go.Proofs.Yteoljddobfnfiaa.My.ld65_eq Go.Proofs.Yteoljddobfnfiaa.My.st65_eq
attribute [local go_sem high] Go.Proofs.Yteoljddobfnfiaa.My.ld44_run Go.Proofs.Yteoljddobfnfiaa.My.st44_run Go.Proofs.Yteoljddobfnfiaa.My.ld27_run Go.Proofs.Yteoljddobfnfiaa.My.st27_run Go.Proofs.Yteoljddobfnfiaa.My.ld37_run Go.Proofs.Yteoljddobfnfiaa.My.st37_run Go.Proofs.Yteoljddobfnfiaa.My.ld65_run Go.Proofs.Yteoljddobfnfiaa.My.st65_run
open Go.Proofs.Yteoljddobfnfiaa.My
attribute [local go_sem] cell_map run_store_fnV one_int one_bool one_string one_slice one_fnV
set_option linter.unusedVariables false
set_option linter.unusedSimpArgs false

mutual
def bounds_Analyze.j0 : Nat → Bool → List (S95) → List (S44) → Int → Int → Int → Int → Int → Int → Option ((List (S37)) × Int × Int)
  | 0, _, _, _, _, _, _, _, _, _ => none
  | k + 1, x18, x177000, x177001, x178000, x178001, x178002, x178003, x178004, x178005 => if x18 = true then (some (([] : List (S37)), (-1), 2)) else (bounds_Analyze.l0 k ([] : List (S37)) x177001 (x177001.length : Int) 0 x178000 x178001 x178002 x178003 x178004 x178005)
def bounds_Analyze.l0 : Nat → List (S37) → List (S44) → Int → Int → Int → Int → Int → Int → Int → Int → Option ((List (S37)) × Int × Int)
  | 0, _, _, _, _, _, _, _, _, _, _ => none
  | k + 1, x7, x20, x21, x22, x178000, x178001, x178002, x178003, x178004, x178005 => if x22 < x21 then (if 0 ≤ x22 then (if x22 < (x20.length : Int) then ((bounds_Bounded.f ((rd_T44 x20 x22).f0) ((rd_T44 x20 x22).f1) ((rd_T44 x20 x22).f2) ((rd_T44 x20 x22).f3) ((rd_T44 x20 x22).f4) ((rd_T44 x20 x22).f5) ((rd_T44 x20 x22).f6) ((rd_T44 x20 x22).f7) ((rd_T44 x20 x22).f8) ((rd_T44 x20 x22).f9) ((rd_T44 x20 x22).f10) ((rd_T44 x20 x22).f11) ((rd_T44 x20 x22).f12) ((rd_T44 x20 x22).f13) ((rd_T44 x20 x22).f14) ((rd_T44 x20 x22).f15)).bind fun t182 => (if t182 = true then ((bounds_bound.f k ((rd_T44 x20 x22).f0) ((rd_T44 x20 x22).f1) ((rd_T44 x20 x22).f2) ((rd_T44 x20 x22).f3) ((rd_T44 x20 x22).f4) ((rd_T44 x20 x22).f5) ((rd_T44 x20 x22).f6) ((rd_T44 x20 x22).f7) ((rd_T44 x20 x22).f8) ((rd_T44 x20 x22).f9) ((rd_T44 x20 x22).f10) ((rd_T44 x20 x22).f11) ((rd_T44 x20 x22).f12) ((rd_T44 x20 x22).f13) ((rd_T44 x20 x22).f14) ((rd_T44 x20 x22).f15) x7 x178000 x178001 x178002 x178003 x178004 x178005).bind fun bt183 => (if bt183.2.2.1 ≥ 1099511627776 then (some (([] : List (S37)), x22, 14)) else (if bt183.2.2.2 ≥ 1099511627776 then (some (([] : List (S37)), x22, 14)) else (if x7.length < 4398046511104 then (bounds_Analyze.l0 k (x7 ++ [(⟨bt183.1, bt183.2.1, bt183.2.2.1, bt183.2.2.2⟩ : S37)]) x20 x21 (wrap64 (x22 + 1)) x178000 x178001 x178002 x178003 x178004 x178005) else (none))))) else (some (([] : List (S37)), x22, 14)))) else (none)) else (none)) else (some (x7, (-1), 0))
end
def bounds_Analyze.f (k : Nat) (l0_0 : List (S95)) (l0_1 : List (S44)) (a1_0 : Int) (a1_1 : Int) (a1_2 : Int) (a1_3 : Int) (a1_4 : Int) (a1_5 : Int) : Option ((List (S37)) × Int × Int) := (bounds_RightConfig.f a1_0 a1_1 a1_2 a1_3 a1_4 a1_5).bind fun t178 => (if t178 = true then ((bounds_Well.f k l0_0 l0_1).bind fun t179 => (bounds_Analyze.j0 k (!t179) l0_0 l0_1 a1_0 a1_1 a1_2 a1_3 a1_4 a1_5)) else (bounds_Analyze.j0 k true l0_0 l0_1 a1_0 a1_1 a1_2 a1_3 a1_4 a1_5))
theorem bounds_Analyze.mono_l : ∀ k, (∀ y0 y1 y2 y3 y4 y5 y6 y7 y8, LeO (bounds_Analyze.j0 k y0 y1 y2 y3 y4 y5 y6 y7 y8) (bounds_Analyze.j0 (k + 1) y0 y1 y2 y3 y4 y5 y6 y7 y8)) ∧ (∀ y0 y1 y2 y3 y4 y5 y6 y7 y8 y9, LeO (bounds_Analyze.l0 k y0 y1 y2 y3 y4 y5 y6 y7 y8 y9) (bounds_Analyze.l0 (k + 1) y0 y1 y2 y3 y4 y5 y6 y7 y8 y9))
  | 0 => ⟨fun _ _ _ _ _ _ _ _ _ r h => by simp [bounds_Analyze.j0] at h, fun _ _ _ _ _ _ _ _ _ _ r h => by simp [bounds_Analyze.l0] at h⟩
  | k + 1 => by
    obtain ⟨ih0, ih1⟩ := bounds_Analyze.mono_l k
    refine ⟨?_, ?_⟩
    · intro y0 y1 y2 y3 y4 y5 y6 y7 y8
      unfold bounds_Analyze.j0
      repeat' first
      | (with_reducible first | exact ih0 _ _ _ _ _ _ _ _ _ | exact ih1 _ _ _ _ _ _ _ _ _ _ | exact bounds_Well.mono _ _ _ | exact bounds_bound.mono _ _ _ _ _ _ _ _ _ _ _ _ _ _ _ _ _ _ _ _ _ _ _ _ | exact LeO.refl _ | exact LeO.none _ | refine LeO.ite ?_ ?_ | refine LeO.bind ?_ (fun _ => ?_))
      | exact ih0 _ _ _ _ _ _ _ _ _ | exact ih1 _ _ _ _ _ _ _ _ _ _ | exact bounds_Well.mono _ _ _ | exact bounds_bound.mono _ _ _ _ _ _ _ _ _ _ _ _ _ _ _ _ _ _ _ _ _ _ _ _ | exact LeO.none _ | refine LeO.ite ?_ ?_ | refine LeO.bind ?_ (fun _ => ?_)
    · intro y0 y1 y2 y3 y4 y5 y6 y7 y8 y9
      unfold bounds_Analyze.l0
      repeat' first
      | (with_reducible first | exact ih0 _ _ _ _ _ _ _ _ _ | exact ih1 _ _ _ _ _ _ _ _ _ _ | exact bounds_Well.mono _ _ _ | exact bounds_bound.mono _ _ _ _ _ _ _ _ _ _ _ _ _ _ _ _ _ _ _ _ _ _ _ _ | exact LeO.refl _ | exact LeO.none _ | refine LeO.ite ?_ ?_ | refine LeO.bind ?_ (fun _ => ?_))
      | exact ih0 _ _ _ _ _ _ _ _ _ | exact ih1 _ _ _ _ _ _ _ _ _ _ | exact bounds_Well.mono _ _ _ | exact bounds_bound.mono _ _ _ _ _ _ _ _ _ _ _ _ _ _ _ _ _ _ _ _ _ _ _ _ | exact LeO.none _ | refine LeO.ite ?_ ?_ | refine LeO.bind ?_ (fun _ => ?_)
theorem bounds_Analyze.mono : ∀ a0 a1 a2 a3 a4 a5 a6 a7 k, LeO (bounds_Analyze.f k a0 a1 a2 a3 a4 a5 a6 a7) (bounds_Analyze.f (k + 1) a0 a1 a2 a3 a4 a5 a6 a7) := by
  intro a0 a1 a2 a3 a4 a5 a6 a7 k
  obtain ⟨ih0, ih1⟩ := bounds_Analyze.mono_l k
  unfold bounds_Analyze.f
  repeat' first
      | (with_reducible first | exact ih0 _ _ _ _ _ _ _ _ _ | exact ih1 _ _ _ _ _ _ _ _ _ _ | exact bounds_Well.mono _ _ _ | exact bounds_bound.mono _ _ _ _ _ _ _ _ _ _ _ _ _ _ _ _ _ _ _ _ _ _ _ _ | exact LeO.refl _ | exact LeO.none _ | refine LeO.ite ?_ ?_ | refine LeO.bind ?_ (fun _ => ?_))
      | exact ih0 _ _ _ _ _ _ _ _ _ | exact ih1 _ _ _ _ _ _ _ _ _ _ | exact bounds_Well.mono _ _ _ | exact bounds_bound.mono _ _ _ _ _ _ _ _ _ _ _ _ _ _ _ _ _ _ _ _ _ _ _ _ | exact LeO.none _ | refine LeO.ite ?_ ?_ | refine LeO.bind ?_ (fun _ => ?_)
set_option maxHeartbeats 8000000 in
set_option maxRecDepth 100000 in
theorem bounds_Analyze.calls (k : Nat) (A0_0 : Option Addr) (c0_0 : Nat) (l0_0 : List (S95)) (A0_1 : Option Addr) (c0_1 : Nat) (l0_1 : List (S44)) (a1_0 : Int) (a1_1 : Int) (a1_2 : Int) (a1_3 : Int) (a1_4 : Int) (a1_5 : Int) (r1 : List (S37)) (r2 : Int) (r3 : Int) (w : World) (hr0_0 : Kd.C k95 w A0_0 l0_0.length l0_0) (hc0_0 : l0_0.length ≤ c0_0) (hr0_1 : Kd.C k44 w A0_1 l0_1.length l0_1) (hc0_1 : l0_1.length ≤ c0_1) (h : bounds_Analyze.f k l0_0 l0_1 a1_0 a1_1 a1_2 a1_3 a1_4 a1_5 = some (r1, r2, r3)) :
    Calls Try.prog 9 #[.agg #[.slice A0_0 l0_0.length c0_0, .slice A0_1 l0_1.length c0_1], .agg #[.int .i64 a1_0, .int .i64 a1_1, .int .i64 a1_2, .int .i64 a1_3, .int .i64 a1_4, .int .i64 a1_5]] w fun e w' => ∃ v0_ : Value, e = .returned (.tuple #[v0_, .int .i64 r2, .int .i64 r3]) ∧ Kd.R k37 37 w' w.heap.size (fun _ => True) v0_ r1 ∧ Below w.heap.size w w' := by
 have hu25 := Try.underlying25
 have hu27 := Try.underlying27
 have hu44 := Try.underlying44
 have hu37 := Try.underlying37
 have HR0_0 := Aside0.mk hr0_0
 have HC0_0 := Aside0.mk hc0_0
 clear hr0_0 hc0_0
 have HR0_1 := Aside0.mk hr0_1
 have HC0_1 := Aside0.mk hc0_1
 clear hr0_1 hc0_1
 have HB := Aside0.mk (Below.refl w.heap.size w)
 have H : ((bounds_RightConfig.f a1_0 a1_1 a1_2 a1_3 a1_4 a1_5).bind fun t178 => (if t178 = true then ((bounds_Well.f k l0_0 l0_1).bind fun t179 => (bounds_Analyze.j0 k (!t179) l0_0 l0_1 a1_0 a1_1 a1_2 a1_3 a1_4 a1_5)) else (bounds_Analyze.j0 k true l0_0 l0_1 a1_0 a1_1 a1_2 a1_3 a1_4 a1_5))) = some (r1, r2, r3) := h
 clear h
 have HC3 := Aside0.mk H
 clear H
 go_enter Try.func9, Try.ntmps9
 go_upto_region 1 with (first | ((with_reducible refine gate_dst (N := 2) rfl ?_); refine box_event ?hg (N := 2) ?hd (cs := #[.slice A0_0 l0_0.length c0_0, .slice A0_1 l0_1.length c0_1]) (t := 25) ?hr ?_; (case hd => rfl); (case hg => rfl); (case hr => first | (go_simp; done) | (go_simp; rfl)); intro gb176 hg w4 hbox hb; have n0_ := Aside0.mk (below_stepA hb); have n1_ := Aside0.mk (hbox); have n2_ := Aside0.mk ((by rw [hg]; exact below_sizeA : w.heap.size ≤ gb176)); have n3_ := Aside0.mk ((by rw [hg]; exact below_sizeA : w.heap.size ≤ gb176)); clear HB; have HB := n0_; have BK176 := n1_; have GW176 := n2_; have GE176 := n3_; clear n0_ n1_ n2_ n3_; clear hb hbox hg) | ((with_reducible refine gate_dst (N := 3) rfl ?_); refine box_event ?hg (N := 3) ?hd (cs := #[.int .i64 a1_0, .int .i64 a1_1, .int .i64 a1_2, .int .i64 a1_3, .int .i64 a1_4, .int .i64 a1_5]) (t := 27) ?hr ?_; (case hd => rfl); (case hg => rfl); (case hr => first | (go_simp; done) | (go_simp; rfl)); intro gb177 hg w5 hbox hb; have n0_ := Aside0.mk (blk_keepA BK176.out hb); have n1_ := Aside0.mk (below_stepA hb); have n2_ := Aside0.mk (hbox); have n3_ := Aside0.mk ((by rw [hg]; exact below_sizeA : w.heap.size ≤ gb177)); have n4_ := Aside0.mk ((by rw [hg]; exact below_sizeA : w.heap.size ≤ gb177)); have n5_ := Aside0.mk ((by rw [hg]; exact Nat.ne_of_lt (blk_ltKA BK176.out) : gb176 ≠ gb177)); have n6_ := Aside0.mk ((by rw [hg]; exact Nat.ne_of_gt (blk_ltKA BK176.out) : gb177 ≠ gb176)); clear BK176; clear HB; have BK176 := n0_; have HB := n1_; have BK177 := n2_; have GW177 := n3_; have GE177 := n4_; have NB176_177 := n5_; have NB177_176 := n6_; clear n0_ n1_ n2_ n3_ n4_ n5_ n6_; clear hb hbox hg))
 (try simp only [Act.put, List.setIfInBounds_toArray, List.set_cons_zero, List.set_cons_succ])
 go_cut [18] (fun v18 wc => ∃ (kq : Nat) (x18_2 : Bool), v18 = .bool x18_2 ∧ Aside0 (bounds_Analyze.j0 kq x18_2 l0_0 l0_1 a1_0 a1_1 a1_2 a1_3 a1_4 a1_5 = some (r1, r2, r3)) ∧ Aside0 (kq ≤ k) ∧ Aside0 (wc.heap[gb176]? = some (.cells #[(.slice A0_0 l0_0.length c0_0), (.slice A0_1 l0_1.length c0_1)] 25 (0, 0))) ∧ Aside0 (wc.heap[gb177]? = some (.cells #[.int .i64 a1_0, .int .i64 a1_1, .int .i64 a1_2, .int .i64 a1_3, .int .i64 a1_4, .int .i64 a1_5] 27 (0, 0))) ∧ Aside0 (Below w.heap.size w wc))
 case first =>
  have H := HC3.out
  clear HC3
  replace H := Option.bind_eq_some_iff.mp H
  obtain ⟨t178, A60, H⟩ := H
  replace H : (if t178 = true then ((bounds_Well.f k l0_0 l0_1).bind fun t179 => (bounds_Analyze.j0 k (!t179) l0_0 l0_1 a1_0 a1_1 a1_2 a1_3 a1_4 a1_5)) else (bounds_Analyze.j0 k true l0_0 l0_1 a1_0 a1_1 a1_2 a1_3 a1_4 a1_5)) = some (r1, r2, r3) := H
  have A6 := Aside0.mk A60
  clear A60
  by_cases c7 : t178 = true
  ·
   subst c7
   have H1 : ((bounds_Well.f k l0_0 l0_1).bind fun t179 => (bounds_Analyze.j0 k (!t179) l0_0 l0_1 a1_0 a1_1 a1_2 a1_3 a1_4 a1_5)) = some (r1, r2, r3) := by rw [if_pos rfl] at H; exact H
   clear H
   have H := H1
   clear H1
   replace H := Option.bind_eq_some_iff.mp H
   obtain ⟨t179, A80, H⟩ := H
   replace H : (bounds_Analyze.j0 k (!t179) l0_0 l0_1 a1_0 a1_1 a1_2 a1_3 a1_4 a1_5) = some (r1, r2, r3) := H
   have A8 := Aside0.mk A80
   clear A80
   have H' := Aside0.mk H
   clear H
   have hnb9 := NB177_176.out
   have hnc9 := NB176_177.out
   obtain ⟨hcz10_0, hcz10_1, hcz10_2, hcz10_3, hcz10_4, hcz10_5, hfz10_0, hfz10_1, hfz10_2, hfz10_3, hfz10_4, hfz10_5⟩ := blk6 BK177.out
   go_wp2_with (first | ((with_reducible refine gate_callee (f := 19) rfl ?_); refine goesL_ (some 12) rfl rfl Try.func19 (by kernel_rfl) rfl #[.agg #[.int .i64 a1_0, .int .i64 a1_1, .int .i64 a1_2, .int .i64 a1_3, .int .i64 a1_4, .int .i64 a1_5]] rfl (by (try simp only [List.map_toArray, List.map_cons, List.map_nil]); first | done | rfl | (simp only [List.length_drop, List.length_take]; rfl)) ?_; (with_reducible refine (bounds_RightConfig.calls a1_0 a1_1 a1_2 a1_3 a1_4 a1_5 true _ A6.out).mono ?_); rintro e w11 ⟨rfl, hb⟩; refine ⟨_, rfl, ?_⟩; have n0_ := Aside0.mk (blk_keepA BK176.out hb); have n1_ := Aside0.mk (blk_keepA BK177.out hb); have n2_ := Aside0.mk (below_stepA hb); clear BK176; clear BK177; clear HB; have BK176 := n0_; have BK177 := n1_; have HB := n2_; clear n0_ n1_ n2_; (try clear hb); (try clear hb2); (try clear hk); (try clear hi); obtain ⟨hcz12_0, hcz12_1, hfz12_0, hfz12_1⟩ := blk2 BK176.out) | (go_at_call 21; (with_reducible refine (bounds_Well.calls k _ _ l0_0 _ _ l0_1 t179 _ ?side1 ?side2 ?side3 ?side4 A8.out).mono ?_); (case side1 => exact c_belowA HR0_0.out); (case side2 => exact HC0_0.out); (case side3 => exact c_belowA HR0_1.out); (case side4 => exact HC0_1.out); rintro e w13 ⟨rfl, hb⟩; have n0_ := Aside0.mk (blk_keepA BK176.out hb); have n1_ := Aside0.mk (blk_keepA BK177.out hb); have n2_ := Aside0.mk (below_stepA hb); clear BK176; clear BK177; clear HB; have BK176 := n0_; have BK177 := n1_; have HB := n2_; clear n0_ n1_ n2_; (try clear hb); (try clear hb2); (try clear hk); (try clear hi)))
   go_meet
   case rel => exact ⟨_, (!t179), (by first | rfl | (simp; done) | (simp [*]; done)), H', ⟨by first | omega | exact Nat.le_refl _⟩, ⟨by (with_reducible repeat (first | refine blk_drewN ?_ _ | refine blk_drew ?_ | refine blk_alloc ?_ _)); exact BK176.out⟩, ⟨by (with_reducible repeat (first | refine blk_drewN ?_ _ | refine blk_drew ?_ | refine blk_alloc ?_ _)); exact BK177.out⟩, ⟨by repeat (first | (with_reducible first | exact HB.out | apply below_alloc | apply pw_below_drewN | apply below_drew1 | refine below_set ?_ GE176.out | refine below_set ?_ GE177.out) | exact HB.out)⟩⟩
  ·
   replace c7 := Bool.eq_false_iff.mpr c7
   subst c7
   have H1 : (bounds_Analyze.j0 k true l0_0 l0_1 a1_0 a1_1 a1_2 a1_3 a1_4 a1_5) = some (r1, r2, r3) := by rw [if_neg (show ¬ (false = true) by decide)] at H; exact H
   clear H
   have H := H1
   clear H1
   have H' := Aside0.mk H
   clear H
   have hnb14 := NB177_176.out
   have hnc14 := NB176_177.out
   obtain ⟨hcz15_0, hcz15_1, hcz15_2, hcz15_3, hcz15_4, hcz15_5, hfz15_0, hfz15_1, hfz15_2, hfz15_3, hfz15_4, hfz15_5⟩ := blk6 BK177.out
   go_wp2_with (first | ((with_reducible refine gate_callee (f := 19) rfl ?_); refine goesL_ (some 12) rfl rfl Try.func19 (by kernel_rfl) rfl #[.agg #[.int .i64 a1_0, .int .i64 a1_1, .int .i64 a1_2, .int .i64 a1_3, .int .i64 a1_4, .int .i64 a1_5]] rfl (by (try simp only [List.map_toArray, List.map_cons, List.map_nil]); first | done | rfl | (simp only [List.length_drop, List.length_take]; rfl)) ?_; (with_reducible refine (bounds_RightConfig.calls a1_0 a1_1 a1_2 a1_3 a1_4 a1_5 false _ A6.out).mono ?_); rintro e w16 ⟨rfl, hb⟩; refine ⟨_, rfl, ?_⟩; have n0_ := Aside0.mk (blk_keepA BK176.out hb); have n1_ := Aside0.mk (blk_keepA BK177.out hb); have n2_ := Aside0.mk (below_stepA hb); clear BK176; clear BK177; clear HB; have BK176 := n0_; have BK177 := n1_; have HB := n2_; clear n0_ n1_ n2_; (try clear hb); (try clear hb2); (try clear hk); (try clear hi)))
   go_meet
   case rel => exact ⟨_, (true), (by first | rfl | (simp; done) | (simp [*]; done)), H', ⟨by first | omega | exact Nat.le_refl _⟩, ⟨by (with_reducible repeat (first | refine blk_drewN ?_ _ | refine blk_drew ?_ | refine blk_alloc ?_ _)); exact BK176.out⟩, ⟨by (with_reducible repeat (first | refine blk_drewN ?_ _ | refine blk_drew ?_ | refine blk_alloc ?_ _)); exact BK177.out⟩, ⟨by repeat (first | (with_reducible first | exact HB.out | apply below_alloc | apply pw_below_drewN | apply below_drew1 | refine below_set ?_ GE176.out | refine below_set ?_ GE177.out) | exact HB.out)⟩⟩
 case rest =>
  clear HC3
  try clear c1
  try clear p2
  try clear c7
  try clear c9
  try clear c14
  try clear hcz10_0
  try clear hcz10_1
  try clear hcz10_2
  try clear hcz10_3
  try clear hcz10_4
  try clear hcz10_5
  try clear hcz12_0
  try clear hcz12_1
  try clear hcz15_0
  try clear hcz15_1
  try clear hcz15_2
  try clear hcz15_3
  try clear hcz15_4
  try clear hcz15_5
  try clear hfz10_0
  try clear hfz10_1
  try clear hfz10_2
  try clear hfz10_3
  try clear hfz10_4
  try clear hfz10_5
  try clear hfz12_0
  try clear hfz12_1
  try clear hfz15_0
  try clear hfz15_1
  try clear hfz15_2
  try clear hfz15_3
  try clear hfz15_4
  try clear hfz15_5
  obtain ⟨kq, x18_2, rfl, HA, HJ2, BK176, BK177, HB⟩ := hcut
  cases kq with
  | zero => exact absurd HA.out (by simp [bounds_Analyze.j0])
  | succ kj2 =>
   have H := HA.out
   clear HA
   simp only [bounds_Analyze.j0] at H
   by_cases c17 : x18_2 = true
   ·
    subst c17
    have H1 : (some (([] : List (S37)), (-1), 2)) = some (r1, r2, r3) := by rw [if_pos rfl] at H; exact H
    clear H
    have H := H1
    clear H1
    simp only [Option.some.injEq, Prod.mk.injEq] at H
    obtain ⟨rfl, rfl, rfl⟩ := H
    go_wp2
    go_ret3
    exact ⟨_, by first | rfl | (simp [errW_none, errW_some] <;> rfl) | (simp [*, errW_none, errW_some] <;> rfl), by first | exact Kd.R_nil _ _ _ _ _ | exact Kd.N_nil _ _ _ _ _ | exact Kd.V_nil _ _ _ _ _ | exact Kd.Q_nil _ _ _ _ _ | exact Kd.S_nil _ _ _ _ _, by repeat (first | (with_reducible first | exact HB.out | apply below_alloc | apply pw_below_drewN | apply below_drew1 | refine below_set ?_ GE176.out | refine below_set ?_ GE177.out) | exact HB.out)⟩
   ·
    replace c17 := Bool.eq_false_iff.mpr c17
    subst c17
    have H1 : (bounds_Analyze.l0 kj2 ([] : List (S37)) l0_1 (l0_1.length : Int) 0 a1_0 a1_1 a1_2 a1_3 a1_4 a1_5) = some (r1, r2, r3) := by rw [if_neg (show ¬ (false = true) by decide)] at H; exact H
    clear H
    have H := H1
    clear H1
    have H' := Aside0.mk H
    clear H
    have hnb18 := NB176_177.out
    have hnc18 := NB177_176.out
    obtain ⟨hcz19_0, hcz19_1, hfz19_0, hfz19_1⟩ := blk2 BK176.out
    go_wp2
    go_loopg [7, 22] kj2 (fun kq v7 v22 w' => ∃ (x7_2 : List (S37)) (x22_2 : Int), v22 = .int .i64 x22_2 ∧ Aside0 (bounds_Analyze.l0 kq x7_2 l0_1 (l0_1.length : Int) x22_2 a1_0 a1_1 a1_2 a1_3 a1_4 a1_5 = some (r1, r2, r3)) ∧ Aside0 (kq ≤ kj2) ∧ Aside0 (Kd.R k37 37 w' w.heap.size (fun _ => True) v7 x7_2) ∧ Aside0 (w'.heap[gb176]? = some (.cells #[(.slice A0_0 l0_0.length c0_0), (.slice A0_1 l0_1.length c0_1)] 25 (0, 0))) ∧ Aside0 (w'.heap[gb177]? = some (.cells #[.int .i64 a1_0, .int .i64 a1_1, .int .i64 a1_2, .int .i64 a1_3, .int .i64 a1_4, .int .i64 a1_5] 27 (0, 0))) ∧ Aside0 (Below w.heap.size w w'))
    case atStart => exact ⟨(([] : List (S37))), (0), (by first | rfl | (simp; done) | (simp [*]; done)), H', ⟨Nat.le_refl _⟩, ⟨by first | exact Kd.R_nil _ _ _ _ _ | exact Kd.N_nil _ _ _ _ _ | exact Kd.V_nil _ _ _ _ _ | exact Kd.Q_nil _ _ _ _ _ | exact Kd.S_nil _ _ _ _ _⟩, ⟨by (with_reducible repeat (first | refine blk_drewN ?_ _ | refine blk_drew ?_ | refine blk_alloc ?_ _)); exact BK176.out⟩, ⟨by (with_reducible repeat (first | refine blk_drewN ?_ _ | refine blk_drew ?_ | refine blk_alloc ?_ _)); exact BK177.out⟩, ⟨by repeat (first | (with_reducible first | exact HB.out | apply below_alloc | apply pw_below_drewN | apply below_drew1 | refine below_set ?_ GE176.out | refine below_set ?_ GE177.out) | exact HB.out)⟩⟩
    case round =>
     clear H'
     try clear c1
     try clear p2
     try clear c7
     try clear c9
     try clear c14
     try clear c17
     try clear c18
     try clear c19
     try clear hcz10_0
     try clear hcz10_1
     try clear hcz10_2
     try clear hcz10_3
     try clear hcz10_4
     try clear hcz10_5
     try clear hcz12_0
     try clear hcz12_1
     try clear hcz15_0
     try clear hcz15_1
     try clear hcz15_2
     try clear hcz15_3
     try clear hcz15_4
     try clear hcz15_5
     try clear hcz19_0
     try clear hcz19_1
     try clear hfz10_0
     try clear hfz10_1
     try clear hfz10_2
     try clear hfz10_3
     try clear hfz10_4
     try clear hfz10_5
     try clear hfz12_0
     try clear hfz12_1
     try clear hfz15_0
     try clear hfz15_1
     try clear hfz15_2
     try clear hfz15_3
     try clear hfz15_4
     try clear hfz15_5
     try clear hfz19_0
     try clear hfz19_1
     try clear p2
     obtain ⟨x7_2, x22_2, rfl, HA, HK2, HO_7, BK176, BK177, HB⟩ := hrel
     cases gk with
     | zero => exact absurd HA.out (by simp [bounds_Analyze.l0])
     | succ k2 =>
      have H := HA.out
      clear HA
      simp only [bounds_Analyze.l0] at H
      by_cases c20 : x22_2 < (l0_1.length : Int)
      ·
       rw [if_pos c20] at H
       have c20b0 : decide (x22_2 < (l0_1.length : Int)) = true := decide_eq_true c20
       clear c20
       by_cases c21 : 0 ≤ x22_2
       ·
        rw [if_pos c21] at H
        have c21b0 : decide (0 ≤ x22_2) = true := decide_eq_true c21
        clear c21
        by_cases c22 : x22_2 < (l0_1.length : Int)
        ·
         rw [if_pos c22] at H
         have c22b0 : decide (x22_2 < (l0_1.length : Int)) = true := decide_eq_true c22
         clear c22
         replace H := Option.bind_eq_some_iff.mp H
         obtain ⟨t182, A230, H⟩ := H
         replace H : (if t182 = true then ((bounds_bound.f k2 ((rd_T44 l0_1 x22_2).f0) ((rd_T44 l0_1 x22_2).f1) ((rd_T44 l0_1 x22_2).f2) ((rd_T44 l0_1 x22_2).f3) ((rd_T44 l0_1 x22_2).f4) ((rd_T44 l0_1 x22_2).f5) ((rd_T44 l0_1 x22_2).f6) ((rd_T44 l0_1 x22_2).f7) ((rd_T44 l0_1 x22_2).f8) ((rd_T44 l0_1 x22_2).f9) ((rd_T44 l0_1 x22_2).f10) ((rd_T44 l0_1 x22_2).f11) ((rd_T44 l0_1 x22_2).f12) ((rd_T44 l0_1 x22_2).f13) ((rd_T44 l0_1 x22_2).f14) ((rd_T44 l0_1 x22_2).f15) x7_2 a1_0 a1_1 a1_2 a1_3 a1_4 a1_5).bind fun bt183 => (if bt183.2.2.1 ≥ 1099511627776 then (some (([] : List (S37)), x22_2, 14)) else (if bt183.2.2.2 ≥ 1099511627776 then (some (([] : List (S37)), x22_2, 14)) else (if x7_2.length < 4398046511104 then (bounds_Analyze.l0 k2 (x7_2 ++ [(⟨bt183.1, bt183.2.1, bt183.2.2.1, bt183.2.2.2⟩ : S37)]) l0_1 (l0_1.length : Int) (wrap64 (x22_2 + 1)) a1_0 a1_1 a1_2 a1_3 a1_4 a1_5) else (none))))) else (some (([] : List (S37)), x22_2, 14))) = some (r1, r2, r3) := H
         have A23 := Aside0.mk A230
         clear A230
         by_cases c24 : t182 = true
         ·
          subst c24
          have H1 : ((bounds_bound.f k2 ((rd_T44 l0_1 x22_2).f0) ((rd_T44 l0_1 x22_2).f1) ((rd_T44 l0_1 x22_2).f2) ((rd_T44 l0_1 x22_2).f3) ((rd_T44 l0_1 x22_2).f4) ((rd_T44 l0_1 x22_2).f5) ((rd_T44 l0_1 x22_2).f6) ((rd_T44 l0_1 x22_2).f7) ((rd_T44 l0_1 x22_2).f8) ((rd_T44 l0_1 x22_2).f9) ((rd_T44 l0_1 x22_2).f10) ((rd_T44 l0_1 x22_2).f11) ((rd_T44 l0_1 x22_2).f12) ((rd_T44 l0_1 x22_2).f13) ((rd_T44 l0_1 x22_2).f14) ((rd_T44 l0_1 x22_2).f15) x7_2 a1_0 a1_1 a1_2 a1_3 a1_4 a1_5).bind fun bt183 => (if bt183.2.2.1 ≥ 1099511627776 then (some (([] : List (S37)), x22_2, 14)) else (if bt183.2.2.2 ≥ 1099511627776 then (some (([] : List (S37)), x22_2, 14)) else (if x7_2.length < 4398046511104 then (bounds_Analyze.l0 k2 (x7_2 ++ [(⟨bt183.1, bt183.2.1, bt183.2.2.1, bt183.2.2.2⟩ : S37)]) l0_1 (l0_1.length : Int) (wrap64 (x22_2 + 1)) a1_0 a1_1 a1_2 a1_3 a1_4 a1_5) else (none))))) = some (r1, r2, r3) := by rw [if_pos rfl] at H; exact H
          clear H
          have H := H1
          clear H1
          replace H := Option.bind_eq_some_iff.mp H
          obtain ⟨⟨t183, t184, t185, t186⟩, A250, H⟩ := H
          replace H : (if t185 ≥ 1099511627776 then (some (([] : List (S37)), x22_2, 14)) else (if t186 ≥ 1099511627776 then (some (([] : List (S37)), x22_2, 14)) else (if x7_2.length < 4398046511104 then (bounds_Analyze.l0 k2 (x7_2 ++ [(⟨t183, t184, t185, t186⟩ : S37)]) l0_1 (l0_1.length : Int) (wrap64 (x22_2 + 1)) a1_0 a1_1 a1_2 a1_3 a1_4 a1_5) else (none)))) = some (r1, r2, r3) := H
          have A25 := Aside0.mk A250
          clear A250
          by_cases c26 : t185 ≥ 1099511627776
          ·
           rw [if_pos c26] at H
           have c26b0 : decide (1099511627776 ≤ t185) = true := decide_eq_true c26
           clear c26
           simp only [Option.some.injEq, Prod.mk.injEq] at H
           obtain ⟨rfl, rfl, rfl⟩ := H
           have p180 : 0 ≤ (x22_2 : Int) := of_decide_eq_true (by first | (with_reducible assumption) | assumption)
           have q180 : x22_2 < (l0_1.length : Int) := of_decide_eq_true (by first | (with_reducible assumption) | assumption)
           obtain ⟨ad180, A180_1, c180_1, A180_4, c180_4, A180_8, c180_8, A180_9, c180_9, A180_13, c180_13, A180_14, c180_14, A180_15, c180_15, e180, hx180_0, hx180_1, hx180_2, hx180_3, hx180_4, hx180_5, hx180_6, hx180_7, hx180_8, hx180_9, hx180_10, hx180_11, hx180_12, hx180_13, hx180_14, hx180_15, hl180_1, hi180_1, hl180_4, hi180_4, hl180_8, hi180_8, hl180_9, hi180_9, hl180_13, hi180_13, hl180_14, hi180_14, hl180_15, hi180_15⟩ := at_T44 HR0_1.out x22_2 p180 q180
           cases e180
           replace hx180_0 := (HB.out.cell (World.block_lt_of_cell? w _ hx180_0)).trans hx180_0
           replace hx180_1 := (HB.out.cell (World.block_lt_of_cell? w _ hx180_1)).trans hx180_1
           replace hx180_2 := (HB.out.cell (World.block_lt_of_cell? w _ hx180_2)).trans hx180_2
           replace hx180_3 := (HB.out.cell (World.block_lt_of_cell? w _ hx180_3)).trans hx180_3
           replace hx180_4 := (HB.out.cell (World.block_lt_of_cell? w _ hx180_4)).trans hx180_4
           replace hx180_5 := (HB.out.cell (World.block_lt_of_cell? w _ hx180_5)).trans hx180_5
           replace hx180_6 := (HB.out.cell (World.block_lt_of_cell? w _ hx180_6)).trans hx180_6
           replace hx180_7 := (HB.out.cell (World.block_lt_of_cell? w _ hx180_7)).trans hx180_7
           replace hx180_8 := (HB.out.cell (World.block_lt_of_cell? w _ hx180_8)).trans hx180_8
           replace hx180_9 := (HB.out.cell (World.block_lt_of_cell? w _ hx180_9)).trans hx180_9
           replace hx180_10 := (HB.out.cell (World.block_lt_of_cell? w _ hx180_10)).trans hx180_10
           replace hx180_11 := (HB.out.cell (World.block_lt_of_cell? w _ hx180_11)).trans hx180_11
           replace hx180_12 := (HB.out.cell (World.block_lt_of_cell? w _ hx180_12)).trans hx180_12
           replace hx180_13 := (HB.out.cell (World.block_lt_of_cell? w _ hx180_13)).trans hx180_13
           replace hx180_14 := (HB.out.cell (World.block_lt_of_cell? w _ hx180_14)).trans hx180_14
           replace hx180_15 := (HB.out.cell (World.block_lt_of_cell? w _ hx180_15)).trans hx180_15
           have HR180_1 := Aside0.mk hi180_1
           have HC180_1 := Aside0.mk hl180_1
           clear hi180_1 hl180_1
           have HR180_4 := Aside0.mk hi180_4
           have HC180_4 := Aside0.mk hl180_4
           clear hi180_4 hl180_4
           have HR180_8 := Aside0.mk hi180_8
           have HC180_8 := Aside0.mk hl180_8
           clear hi180_8 hl180_8
           have HR180_9 := Aside0.mk hi180_9
           have HC180_9 := Aside0.mk hl180_9
           clear hi180_9 hl180_9
           have HR180_13 := Aside0.mk hi180_13
           have HC180_13 := Aside0.mk hl180_13
           clear hi180_13 hl180_13
           have HR180_14 := Aside0.mk hi180_14
           have HC180_14 := Aside0.mk hl180_14
           clear hi180_14 hl180_14
           have HR180_15 := Aside0.mk hi180_15
           have HC180_15 := Aside0.mk hl180_15
           clear hi180_15 hl180_15
           replace p180 := eq_true p180
           replace q180 := eq_true q180
           go_wp2_with (first | ((with_reducible refine gate_dst (N := 9) rfl ?_); refine box_event ?hg (N := 9) ?hd (cs := #[.int .i64 0, .slice none 0 0, .string (⟨#[]⟩ : ByteArray), .int .i64 0, .slice none 0 0, .int .i64 0, .int .i64 0, .int .i64 0, .slice none 0 0, .slice none 0 0, .int .i64 0, .int .i64 0, .int .i64 0, .slice none 0 0, .slice none 0 0, .slice none 0 0]) (t := 44) ?hr ?_; (case hd => rfl); (case hg => rfl); (case hr => first | (go_simp; done) | (go_simp; rfl)); intro gb181 hg w27 hbox hb; have n0_ := Aside0.mk (Kd.R_below (by (with_reducible repeat (first | apply Kd.R_alloc | apply Kd.R_drewN | apply Kd.R_drew)); exact HO_7.out) hb); have n1_ := Aside0.mk (blk_keepA BK176.out hb); have n2_ := Aside0.mk (blk_keepA BK177.out hb); have n3_ := Aside0.mk (below_stepA hb); have n4_ := Aside0.mk (hbox); have n5_ := Aside0.mk ((by rw [hg]; exact below_sizeA : w.heap.size ≤ gb181)); have n6_ := Aside0.mk ((by rw [hg]; exact below_sizeA : w.heap.size ≤ gb181)); have n7_ := Aside0.mk ((by rw [hg]; exact Nat.ne_of_lt (blk_ltKA BK176.out) : gb176 ≠ gb181)); have n8_ := Aside0.mk ((by rw [hg]; exact Nat.ne_of_gt (blk_ltKA BK176.out) : gb181 ≠ gb176)); have n9_ := Aside0.mk ((by rw [hg]; exact Nat.ne_of_lt (blk_ltKA BK177.out) : gb177 ≠ gb181)); have n10_ := Aside0.mk ((by rw [hg]; exact Nat.ne_of_gt (blk_ltKA BK177.out) : gb181 ≠ gb177)); clear HO_7; clear BK176; clear BK177; clear HB; have HO_7 := n0_; have BK176 := n1_; have BK177 := n2_; have HB := n3_; have BK181 := n4_; have GW181 := n5_; have GE181 := n6_; have NB176_181 := n7_; have NB181_176 := n8_; have NB177_181 := n9_; have NB181_177 := n10_; clear n0_ n1_ n2_ n3_ n4_ n5_ n6_ n7_ n8_ n9_ n10_; clear hb hbox hg; have hnb28 := NB181_176.out; have hnc28 := NB176_181.out; have hnb29 := NB181_177.out; have hnc29 := NB177_181.out; obtain ⟨hcz30_0, hcz30_1, hcz30_2, hcz30_3, hcz30_4, hcz30_5, hcz30_6, hcz30_7, hcz30_8, hcz30_9, hcz30_10, hcz30_11, hcz30_12, hcz30_13, hcz30_14, hcz30_15, hfz30_0, hfz30_1, hfz30_2, hfz30_3, hfz30_4, hfz30_5, hfz30_6, hfz30_7, hfz30_8, hfz30_9, hfz30_10, hfz30_11, hfz30_12, hfz30_13, hfz30_14, hfz30_15⟩ := blk16 BK181.out) | ((with_reducible refine gate_callee (f := 12) rfl ?_); refine goesL_ (some 28) rfl rfl Try.func12 (by kernel_rfl) rfl #[.agg #[.int .i64 ((rd_T44 l0_1 x22_2).f0), .slice A180_1 ((rd_T44 l0_1 x22_2).f1).length c180_1, .string ((rd_T44 l0_1 x22_2).f2), .int .i64 ((rd_T44 l0_1 x22_2).f3), .slice A180_4 ((rd_T44 l0_1 x22_2).f4).length c180_4, .int .i64 ((rd_T44 l0_1 x22_2).f5), .int .i64 ((rd_T44 l0_1 x22_2).f6), .int .i64 ((rd_T44 l0_1 x22_2).f7), .slice A180_8 ((rd_T44 l0_1 x22_2).f8).length c180_8, .slice A180_9 ((rd_T44 l0_1 x22_2).f9).length c180_9, .int .i64 ((rd_T44 l0_1 x22_2).f10), .int .i64 ((rd_T44 l0_1 x22_2).f11), .int .i64 ((rd_T44 l0_1 x22_2).f12), .slice A180_13 ((rd_T44 l0_1 x22_2).f13).length c180_13, .slice A180_14 ((rd_T44 l0_1 x22_2).f14).length c180_14, .slice A180_15 ((rd_T44 l0_1 x22_2).f15).length c180_15]] rfl (by (try simp only [List.map_toArray, List.map_cons, List.map_nil]); first | done | rfl | (simp only [List.length_drop, List.length_take]; rfl)) ?_; (with_reducible refine (bounds_Bounded.calls ((rd_T44 l0_1 x22_2).f0) _ _ ((rd_T44 l0_1 x22_2).f1) ((rd_T44 l0_1 x22_2).f2) ((rd_T44 l0_1 x22_2).f3) _ _ ((rd_T44 l0_1 x22_2).f4) ((rd_T44 l0_1 x22_2).f5) ((rd_T44 l0_1 x22_2).f6) ((rd_T44 l0_1 x22_2).f7) _ _ ((rd_T44 l0_1 x22_2).f8) _ _ ((rd_T44 l0_1 x22_2).f9) ((rd_T44 l0_1 x22_2).f10) ((rd_T44 l0_1 x22_2).f11) ((rd_T44 l0_1 x22_2).f12) _ _ ((rd_T44 l0_1 x22_2).f13) _ _ ((rd_T44 l0_1 x22_2).f14) _ _ ((rd_T44 l0_1 x22_2).f15) true _ ?side1 ?side2 ?side3 ?side4 ?side5 ?side6 ?side7 ?side8 ?side9 ?side10 ?side11 ?side12 ?side13 ?side14 A23.out).mono ?_); (case side1 => exact Kd.C_below HR180_1.out (by repeat (first | (with_reducible first | exact HB.out | apply below_alloc | apply pw_below_drewN | apply below_drew1 | refine below_set ?_ GE176.out | refine below_set ?_ GE177.out | refine below_set ?_ GE181.out) | exact HB.out))); (case side2 => exact HC180_1.out); (case side3 => exact Kd.C_below HR180_4.out (by repeat (first | (with_reducible first | exact HB.out | apply below_alloc | apply pw_below_drewN | apply below_drew1 | refine below_set ?_ GE176.out | refine below_set ?_ GE177.out | refine below_set ?_ GE181.out) | exact HB.out))); (case side4 => exact HC180_4.out); (case side5 => exact Kd.C_below HR180_8.out (by repeat (first | (with_reducible first | exact HB.out | apply below_alloc | apply pw_below_drewN | apply below_drew1 | refine below_set ?_ GE176.out | refine below_set ?_ GE177.out | refine below_set ?_ GE181.out) | exact HB.out))); (case side6 => exact HC180_8.out); (case side7 => exact Kd.C_below HR180_9.out (by repeat (first | (with_reducible first | exact HB.out | apply below_alloc | apply pw_below_drewN | apply below_drew1 | refine below_set ?_ GE176.out | refine below_set ?_ GE177.out | refine below_set ?_ GE181.out) | exact HB.out))); (case side8 => exact HC180_9.out); (case side9 => exact Kd.C_below HR180_13.out (by repeat (first | (with_reducible first | exact HB.out | apply below_alloc | apply pw_below_drewN | apply below_drew1 | refine below_set ?_ GE176.out | refine below_set ?_ GE177.out | refine below_set ?_ GE181.out) | exact HB.out))); (case side10 => exact HC180_13.out); (case side11 => exact Kd.C_below HR180_14.out (by repeat (first | (with_reducible first | exact HB.out | apply below_alloc | apply pw_below_drewN | apply below_drew1 | refine below_set ?_ GE176.out | refine below_set ?_ GE177.out | refine below_set ?_ GE181.out) | exact HB.out))); (case side12 => exact HC180_14.out); (case side13 => exact Kd.C_below HR180_15.out (by repeat (first | (with_reducible first | exact HB.out | apply below_alloc | apply pw_below_drewN | apply below_drew1 | refine below_set ?_ GE176.out | refine below_set ?_ GE177.out | refine below_set ?_ GE181.out) | exact HB.out))); (case side14 => exact HC180_15.out); rintro e w31 ⟨rfl, hb⟩; refine ⟨_, rfl, ?_⟩; have n0_ := Aside0.mk (Kd.R_below (by (with_reducible repeat (first | apply Kd.R_alloc | apply Kd.R_drewN | apply Kd.R_drew)); exact (Kd.R_mono (Kd.R_far (p := ⟨gb181, 15, none⟩) (Kd.R_far (p := ⟨gb181, 14, none⟩) (Kd.R_far (p := ⟨gb181, 13, none⟩) (Kd.R_far (p := ⟨gb181, 12, none⟩) (Kd.R_far (p := ⟨gb181, 11, none⟩) (Kd.R_far (p := ⟨gb181, 10, none⟩) (Kd.R_far (p := ⟨gb181, 9, none⟩) (Kd.R_far (p := ⟨gb181, 8, none⟩) (Kd.R_far (p := ⟨gb181, 7, none⟩) (Kd.R_far (p := ⟨gb181, 6, none⟩) (Kd.R_far (p := ⟨gb181, 5, none⟩) (Kd.R_far (p := ⟨gb181, 4, none⟩) (Kd.R_far (p := ⟨gb181, 3, none⟩) (Kd.R_far (p := ⟨gb181, 2, none⟩) (Kd.R_far (p := ⟨gb181, 1, none⟩) (Kd.R_far (p := ⟨gb181, 0, none⟩) (Kd.R_types HO_7.out BK181.out (by decide)) (fun _ hk => hk.2) (.int .i64 ((rd_T44 l0_1 x22_2).f0))) (fun _ hk => hk.2) (.slice A180_1 ((rd_T44 l0_1 x22_2).f1).length c180_1)) (fun _ hk => hk.2) (.string ((rd_T44 l0_1 x22_2).f2))) (fun _ hk => hk.2) (.int .i64 ((rd_T44 l0_1 x22_2).f3))) (fun _ hk => hk.2) (.slice A180_4 ((rd_T44 l0_1 x22_2).f4).length c180_4)) (fun _ hk => hk.2) (.int .i64 ((rd_T44 l0_1 x22_2).f5))) (fun _ hk => hk.2) (.int .i64 ((rd_T44 l0_1 x22_2).f6))) (fun _ hk => hk.2) (.int .i64 ((rd_T44 l0_1 x22_2).f7))) (fun _ hk => hk.2) (.slice A180_8 ((rd_T44 l0_1 x22_2).f8).length c180_8)) (fun _ hk => hk.2) (.slice A180_9 ((rd_T44 l0_1 x22_2).f9).length c180_9)) (fun _ hk => hk.2) (.int .i64 ((rd_T44 l0_1 x22_2).f10))) (fun _ hk => hk.2) (.int .i64 ((rd_T44 l0_1 x22_2).f11))) (fun _ hk => hk.2) (.int .i64 ((rd_T44 l0_1 x22_2).f12))) (fun _ hk => hk.2) (.slice A180_13 ((rd_T44 l0_1 x22_2).f13).length c180_13)) (fun _ hk => hk.2) (.slice A180_14 ((rd_T44 l0_1 x22_2).f14).length c180_14)) (fun _ hk => hk.2) (.slice A180_15 ((rd_T44 l0_1 x22_2).f15).length c180_15)) (fun _ h_ => h_.1))) hb); have n1_ := Aside0.mk (blk_keep BK176.out (fun h_ => by (with_reducible repeat (first | refine blk_drewN ?_ _ | refine blk_drew ?_ | refine blk_alloc ?_ _)); refine blk_far ?_ NB176_181.out _; (with_reducible repeat (first | refine blk_drewN ?_ _ | refine blk_drew ?_ | refine blk_alloc ?_ _)); refine blk_far ?_ NB176_181.out _; (with_reducible repeat (first | refine blk_drewN ?_ _ | refine blk_drew ?_ | refine blk_alloc ?_ _)); refine blk_far ?_ NB176_181.out _; (with_reducible repeat (first | refine blk_drewN ?_ _ | refine blk_drew ?_ | refine blk_alloc ?_ _)); refine blk_far ?_ NB176_181.out _; (with_reducible repeat (first | refine blk_drewN ?_ _ | refine blk_drew ?_ | refine blk_alloc ?_ _)); refine blk_far ?_ NB176_181.out _; (with_reducible repeat (first | refine blk_drewN ?_ _ | refine blk_drew ?_ | refine blk_alloc ?_ _)); refine blk_far ?_ NB176_181.out _; (with_reducible repeat (first | refine blk_drewN ?_ _ | refine blk_drew ?_ | refine blk_alloc ?_ _)); refine blk_far ?_ NB176_181.out _; (with_reducible repeat (first | refine blk_drewN ?_ _ | refine blk_drew ?_ | refine blk_alloc ?_ _)); refine blk_far ?_ NB176_181.out _; (with_reducible repeat (first | refine blk_drewN ?_ _ | refine blk_drew ?_ | refine blk_alloc ?_ _)); refine blk_far ?_ NB176_181.out _; (with_reducible repeat (first | refine blk_drewN ?_ _ | refine blk_drew ?_ | refine blk_alloc ?_ _)); refine blk_far ?_ NB176_181.out _; (with_reducible repeat (first | refine blk_drewN ?_ _ | refine blk_drew ?_ | refine blk_alloc ?_ _)); refine blk_far ?_ NB176_181.out _; (with_reducible repeat (first | refine blk_drewN ?_ _ | refine blk_drew ?_ | refine blk_alloc ?_ _)); refine blk_far ?_ NB176_181.out _; (with_reducible repeat (first | refine blk_drewN ?_ _ | refine blk_drew ?_ | refine blk_alloc ?_ _)); refine blk_far ?_ NB176_181.out _; (with_reducible repeat (first | refine blk_drewN ?_ _ | refine blk_drew ?_ | refine blk_alloc ?_ _)); refine blk_far ?_ NB176_181.out _; (with_reducible repeat (first | refine blk_drewN ?_ _ | refine blk_drew ?_ | refine blk_alloc ?_ _)); refine blk_far ?_ NB176_181.out _; (with_reducible repeat (first | refine blk_drewN ?_ _ | refine blk_drew ?_ | refine blk_alloc ?_ _)); refine blk_far ?_ NB176_181.out _; (with_reducible repeat (first | refine blk_drewN ?_ _ | refine blk_drew ?_ | refine blk_alloc ?_ _)); exact h_) hb); have n2_ := Aside0.mk (blk_keep BK177.out (fun h_ => by (with_reducible repeat (first | refine blk_drewN ?_ _ | refine blk_drew ?_ | refine blk_alloc ?_ _)); refine blk_far ?_ NB177_181.out _; (with_reducible repeat (first | refine blk_drewN ?_ _ | refine blk_drew ?_ | refine blk_alloc ?_ _)); refine blk_far ?_ NB177_181.out _; (with_reducible repeat (first | refine blk_drewN ?_ _ | refine blk_drew ?_ | refine blk_alloc ?_ _)); refine blk_far ?_ NB177_181.out _; (with_reducible repeat (first | refine blk_drewN ?_ _ | refine blk_drew ?_ | refine blk_alloc ?_ _)); refine blk_far ?_ NB177_181.out _; (with_reducible repeat (first | refine blk_drewN ?_ _ | refine blk_drew ?_ | refine blk_alloc ?_ _)); refine blk_far ?_ NB177_181.out _; (with_reducible repeat (first | refine blk_drewN ?_ _ | refine blk_drew ?_ | refine blk_alloc ?_ _)); refine blk_far ?_ NB177_181.out _; (with_reducible repeat (first | refine blk_drewN ?_ _ | refine blk_drew ?_ | refine blk_alloc ?_ _)); refine blk_far ?_ NB177_181.out _; (with_reducible repeat (first | refine blk_drewN ?_ _ | refine blk_drew ?_ | refine blk_alloc ?_ _)); refine blk_far ?_ NB177_181.out _; (with_reducible repeat (first | refine blk_drewN ?_ _ | refine blk_drew ?_ | refine blk_alloc ?_ _)); refine blk_far ?_ NB177_181.out _; (with_reducible repeat (first | refine blk_drewN ?_ _ | refine blk_drew ?_ | refine blk_alloc ?_ _)); refine blk_far ?_ NB177_181.out _; (with_reducible repeat (first | refine blk_drewN ?_ _ | refine blk_drew ?_ | refine blk_alloc ?_ _)); refine blk_far ?_ NB177_181.out _; (with_reducible repeat (first | refine blk_drewN ?_ _ | refine blk_drew ?_ | refine blk_alloc ?_ _)); refine blk_far ?_ NB177_181.out _; (with_reducible repeat (first | refine blk_drewN ?_ _ | refine blk_drew ?_ | refine blk_alloc ?_ _)); refine blk_far ?_ NB177_181.out _; (with_reducible repeat (first | refine blk_drewN ?_ _ | refine blk_drew ?_ | refine blk_alloc ?_ _)); refine blk_far ?_ NB177_181.out _; (with_reducible repeat (first | refine blk_drewN ?_ _ | refine blk_drew ?_ | refine blk_alloc ?_ _)); refine blk_far ?_ NB177_181.out _; (with_reducible repeat (first | refine blk_drewN ?_ _ | refine blk_drew ?_ | refine blk_alloc ?_ _)); refine blk_far ?_ NB177_181.out _; (with_reducible repeat (first | refine blk_drewN ?_ _ | refine blk_drew ?_ | refine blk_alloc ?_ _)); exact h_) hb); have n3_ := Aside0.mk (blk_below (g := gb181) (o := .cells #[.int .i64 ((rd_T44 l0_1 x22_2).f0), .slice A180_1 ((rd_T44 l0_1 x22_2).f1).length c180_1, .string ((rd_T44 l0_1 x22_2).f2), .int .i64 ((rd_T44 l0_1 x22_2).f3), .slice A180_4 ((rd_T44 l0_1 x22_2).f4).length c180_4, .int .i64 ((rd_T44 l0_1 x22_2).f5), .int .i64 ((rd_T44 l0_1 x22_2).f6), .int .i64 ((rd_T44 l0_1 x22_2).f7), .slice A180_8 ((rd_T44 l0_1 x22_2).f8).length c180_8, .slice A180_9 ((rd_T44 l0_1 x22_2).f9).length c180_9, .int .i64 ((rd_T44 l0_1 x22_2).f10), .int .i64 ((rd_T44 l0_1 x22_2).f11), .int .i64 ((rd_T44 l0_1 x22_2).f12), .slice A180_13 ((rd_T44 l0_1 x22_2).f13).length c180_13, .slice A180_14 ((rd_T44 l0_1 x22_2).f14).length c180_14, .slice A180_15 ((rd_T44 l0_1 x22_2).f15).length c180_15] 44 (0, 0)) (by (with_reducible repeat (first | refine blk_drewN ?_ _ | refine blk_drew ?_ | refine blk_alloc ?_ _)); refine blk_put (cs := #[.int .i64 ((rd_T44 l0_1 x22_2).f0), .slice A180_1 ((rd_T44 l0_1 x22_2).f1).length c180_1, .string ((rd_T44 l0_1 x22_2).f2), .int .i64 ((rd_T44 l0_1 x22_2).f3), .slice A180_4 ((rd_T44 l0_1 x22_2).f4).length c180_4, .int .i64 ((rd_T44 l0_1 x22_2).f5), .int .i64 ((rd_T44 l0_1 x22_2).f6), .int .i64 ((rd_T44 l0_1 x22_2).f7), .slice A180_8 ((rd_T44 l0_1 x22_2).f8).length c180_8, .slice A180_9 ((rd_T44 l0_1 x22_2).f9).length c180_9, .int .i64 ((rd_T44 l0_1 x22_2).f10), .int .i64 ((rd_T44 l0_1 x22_2).f11), .int .i64 ((rd_T44 l0_1 x22_2).f12), .slice A180_13 ((rd_T44 l0_1 x22_2).f13).length c180_13, .slice A180_14 ((rd_T44 l0_1 x22_2).f14).length c180_14, .slice none 0 0]) ?_ 15 _ rfl; (with_reducible repeat (first | refine blk_drewN ?_ _ | refine blk_drew ?_ | refine blk_alloc ?_ _)); refine blk_put (cs := #[.int .i64 ((rd_T44 l0_1 x22_2).f0), .slice A180_1 ((rd_T44 l0_1 x22_2).f1).length c180_1, .string ((rd_T44 l0_1 x22_2).f2), .int .i64 ((rd_T44 l0_1 x22_2).f3), .slice A180_4 ((rd_T44 l0_1 x22_2).f4).length c180_4, .int .i64 ((rd_T44 l0_1 x22_2).f5), .int .i64 ((rd_T44 l0_1 x22_2).f6), .int .i64 ((rd_T44 l0_1 x22_2).f7), .slice A180_8 ((rd_T44 l0_1 x22_2).f8).length c180_8, .slice A180_9 ((rd_T44 l0_1 x22_2).f9).length c180_9, .int .i64 ((rd_T44 l0_1 x22_2).f10), .int .i64 ((rd_T44 l0_1 x22_2).f11), .int .i64 ((rd_T44 l0_1 x22_2).f12), .slice A180_13 ((rd_T44 l0_1 x22_2).f13).length c180_13, .slice none 0 0, .slice none 0 0]) ?_ 14 _ rfl; (with_reducible repeat (first | refine blk_drewN ?_ _ | refine blk_drew ?_ | refine blk_alloc ?_ _)); refine blk_put (cs := #[.int .i64 ((rd_T44 l0_1 x22_2).f0), .slice A180_1 ((rd_T44 l0_1 x22_2).f1).length c180_1, .string ((rd_T44 l0_1 x22_2).f2), .int .i64 ((rd_T44 l0_1 x22_2).f3), .slice A180_4 ((rd_T44 l0_1 x22_2).f4).length c180_4, .int .i64 ((rd_T44 l0_1 x22_2).f5), .int .i64 ((rd_T44 l0_1 x22_2).f6), .int .i64 ((rd_T44 l0_1 x22_2).f7), .slice A180_8 ((rd_T44 l0_1 x22_2).f8).length c180_8, .slice A180_9 ((rd_T44 l0_1 x22_2).f9).length c180_9, .int .i64 ((rd_T44 l0_1 x22_2).f10), .int .i64 ((rd_T44 l0_1 x22_2).f11), .int .i64 ((rd_T44 l0_1 x22_2).f12), .slice none 0 0, .slice none 0 0, .slice none 0 0]) ?_ 13 _ rfl; (with_reducible repeat (first | refine blk_drewN ?_ _ | refine blk_drew ?_ | refine blk_alloc ?_ _)); refine blk_put (cs := #[.int .i64 ((rd_T44 l0_1 x22_2).f0), .slice A180_1 ((rd_T44 l0_1 x22_2).f1).length c180_1, .string ((rd_T44 l0_1 x22_2).f2), .int .i64 ((rd_T44 l0_1 x22_2).f3), .slice A180_4 ((rd_T44 l0_1 x22_2).f4).length c180_4, .int .i64 ((rd_T44 l0_1 x22_2).f5), .int .i64 ((rd_T44 l0_1 x22_2).f6), .int .i64 ((rd_T44 l0_1 x22_2).f7), .slice A180_8 ((rd_T44 l0_1 x22_2).f8).length c180_8, .slice A180_9 ((rd_T44 l0_1 x22_2).f9).length c180_9, .int .i64 ((rd_T44 l0_1 x22_2).f10), .int .i64 ((rd_T44 l0_1 x22_2).f11), .int .i64 0, .slice none 0 0, .slice none 0 0, .slice none 0 0]) ?_ 12 _ rfl; (with_reducible repeat (first | refine blk_drewN ?_ _ | refine blk_drew ?_ | refine blk_alloc ?_ _)); refine blk_put (cs := #[.int .i64 ((rd_T44 l0_1 x22_2).f0), .slice A180_1 ((rd_T44 l0_1 x22_2).f1).length c180_1, .string ((rd_T44 l0_1 x22_2).f2), .int .i64 ((rd_T44 l0_1 x22_2).f3), .slice A180_4 ((rd_T44 l0_1 x22_2).f4).length c180_4, .int .i64 ((rd_T44 l0_1 x22_2).f5), .int .i64 ((rd_T44 l0_1 x22_2).f6), .int .i64 ((rd_T44 l0_1 x22_2).f7), .slice A180_8 ((rd_T44 l0_1 x22_2).f8).length c180_8, .slice A180_9 ((rd_T44 l0_1 x22_2).f9).length c180_9, .int .i64 ((rd_T44 l0_1 x22_2).f10), .int .i64 0, .int .i64 0, .slice none 0 0, .slice none 0 0, .slice none 0 0]) ?_ 11 _ rfl; (with_reducible repeat (first | refine blk_drewN ?_ _ | refine blk_drew ?_ | refine blk_alloc ?_ _)); refine blk_put (cs := #[.int .i64 ((rd_T44 l0_1 x22_2).f0), .slice A180_1 ((rd_T44 l0_1 x22_2).f1).length c180_1, .string ((rd_T44 l0_1 x22_2).f2), .int .i64 ((rd_T44 l0_1 x22_2).f3), .slice A180_4 ((rd_T44 l0_1 x22_2).f4).length c180_4, .int .i64 ((rd_T44 l0_1 x22_2).f5), .int .i64 ((rd_T44 l0_1 x22_2).f6), .int .i64 ((rd_T44 l0_1 x22_2).f7), .slice A180_8 ((rd_T44 l0_1 x22_2).f8).length c180_8, .slice A180_9 ((rd_T44 l0_1 x22_2).f9).length c180_9, .int .i64 0, .int .i64 0, .int .i64 0, .slice none 0 0, .slice none 0 0, .slice none 0 0]) ?_ 10 _ rfl; (with_reducible repeat (first | refine blk_drewN ?_ _ | refine blk_drew ?_ | refine blk_alloc ?_ _)); refine blk_put (cs := #[.int .i64 ((rd_T44 l0_1 x22_2).f0), .slice A180_1 ((rd_T44 l0_1 x22_2).f1).length c180_1, .string ((rd_T44 l0_1 x22_2).f2), .int .i64 ((rd_T44 l0_1 x22_2).f3), .slice A180_4 ((rd_T44 l0_1 x22_2).f4).length c180_4, .int .i64 ((rd_T44 l0_1 x22_2).f5), .int .i64 ((rd_T44 l0_1 x22_2).f6), .int .i64 ((rd_T44 l0_1 x22_2).f7), .slice A180_8 ((rd_T44 l0_1 x22_2).f8).length c180_8, .slice none 0 0, .int .i64 0, .int .i64 0, .int .i64 0, .slice none 0 0, .slice none 0 0, .slice none 0 0]) ?_ 9 _ rfl; (with_reducible repeat (first | refine blk_drewN ?_ _ | refine blk_drew ?_ | refine blk_alloc ?_ _)); refine blk_put (cs := #[.int .i64 ((rd_T44 l0_1 x22_2).f0), .slice A180_1 ((rd_T44 l0_1 x22_2).f1).length c180_1, .string ((rd_T44 l0_1 x22_2).f2), .int .i64 ((rd_T44 l0_1 x22_2).f3), .slice A180_4 ((rd_T44 l0_1 x22_2).f4).length c180_4, .int .i64 ((rd_T44 l0_1 x22_2).f5), .int .i64 ((rd_T44 l0_1 x22_2).f6), .int .i64 ((rd_T44 l0_1 x22_2).f7), .slice none 0 0, .slice none 0 0, .int .i64 0, .int .i64 0, .int .i64 0, .slice none 0 0, .slice none 0 0, .slice none 0 0]) ?_ 8 _ rfl; (with_reducible repeat (first | refine blk_drewN ?_ _ | refine blk_drew ?_ | refine blk_alloc ?_ _)); refine blk_put (cs := #[.int .i64 ((rd_T44 l0_1 x22_2).f0), .slice A180_1 ((rd_T44 l0_1 x22_2).f1).length c180_1, .string ((rd_T44 l0_1 x22_2).f2), .int .i64 ((rd_T44 l0_1 x22_2).f3), .slice A180_4 ((rd_T44 l0_1 x22_2).f4).length c180_4, .int .i64 ((rd_T44 l0_1 x22_2).f5), .int .i64 ((rd_T44 l0_1 x22_2).f6), .int .i64 0, .slice none 0 0, .slice none 0 0, .int .i64 0, .int .i64 0, .int .i64 0, .slice none 0 0, .slice none 0 0, .slice none 0 0]) ?_ 7 _ rfl; (with_reducible repeat (first | refine blk_drewN ?_ _ | refine blk_drew ?_ | refine blk_alloc ?_ _)); refine blk_put (cs := #[.int .i64 ((rd_T44 l0_1 x22_2).f0), .slice A180_1 ((rd_T44 l0_1 x22_2).f1).length c180_1, .string ((rd_T44 l0_1 x22_2).f2), .int .i64 ((rd_T44 l0_1 x22_2).f3), .slice A180_4 ((rd_T44 l0_1 x22_2).f4).length c180_4, .int .i64 ((rd_T44 l0_1 x22_2).f5), .int .i64 0, .int .i64 0, .slice none 0 0, .slice none 0 0, .int .i64 0, .int .i64 0, .int .i64 0, .slice none 0 0, .slice none 0 0, .slice none 0 0]) ?_ 6 _ rfl; (with_reducible repeat (first | refine blk_drewN ?_ _ | refine blk_drew ?_ | refine blk_alloc ?_ _)); refine blk_put (cs := #[.int .i64 ((rd_T44 l0_1 x22_2).f0), .slice A180_1 ((rd_T44 l0_1 x22_2).f1).length c180_1, .string ((rd_T44 l0_1 x22_2).f2), .int .i64 ((rd_T44 l0_1 x22_2).f3), .slice A180_4 ((rd_T44 l0_1 x22_2).f4).length c180_4, .int .i64 0, .int .i64 0, .int .i64 0, .slice none 0 0, .slice none 0 0, .int .i64 0, .int .i64 0, .int .i64 0, .slice none 0 0, .slice none 0 0, .slice none 0 0]) ?_ 5 _ rfl; (with_reducible repeat (first | refine blk_drewN ?_ _ | refine blk_drew ?_ | refine blk_alloc ?_ _)); refine blk_put (cs := #[.int .i64 ((rd_T44 l0_1 x22_2).f0), .slice A180_1 ((rd_T44 l0_1 x22_2).f1).length c180_1, .string ((rd_T44 l0_1 x22_2).f2), .int .i64 ((rd_T44 l0_1 x22_2).f3), .slice none 0 0, .int .i64 0, .int .i64 0, .int .i64 0, .slice none 0 0, .slice none 0 0, .int .i64 0, .int .i64 0, .int .i64 0, .slice none 0 0, .slice none 0 0, .slice none 0 0]) ?_ 4 _ rfl; (with_reducible repeat (first | refine blk_drewN ?_ _ | refine blk_drew ?_ | refine blk_alloc ?_ _)); refine blk_put (cs := #[.int .i64 ((rd_T44 l0_1 x22_2).f0), .slice A180_1 ((rd_T44 l0_1 x22_2).f1).length c180_1, .string ((rd_T44 l0_1 x22_2).f2), .int .i64 0, .slice none 0 0, .int .i64 0, .int .i64 0, .int .i64 0, .slice none 0 0, .slice none 0 0, .int .i64 0, .int .i64 0, .int .i64 0, .slice none 0 0, .slice none 0 0, .slice none 0 0]) ?_ 3 _ rfl; (with_reducible repeat (first | refine blk_drewN ?_ _ | refine blk_drew ?_ | refine blk_alloc ?_ _)); refine blk_put (cs := #[.int .i64 ((rd_T44 l0_1 x22_2).f0), .slice A180_1 ((rd_T44 l0_1 x22_2).f1).length c180_1, .string (⟨#[]⟩ : ByteArray), .int .i64 0, .slice none 0 0, .int .i64 0, .int .i64 0, .int .i64 0, .slice none 0 0, .slice none 0 0, .int .i64 0, .int .i64 0, .int .i64 0, .slice none 0 0, .slice none 0 0, .slice none 0 0]) ?_ 2 _ rfl; (with_reducible repeat (first | refine blk_drewN ?_ _ | refine blk_drew ?_ | refine blk_alloc ?_ _)); refine blk_put (cs := #[.int .i64 ((rd_T44 l0_1 x22_2).f0), .slice none 0 0, .string (⟨#[]⟩ : ByteArray), .int .i64 0, .slice none 0 0, .int .i64 0, .int .i64 0, .int .i64 0, .slice none 0 0, .slice none 0 0, .int .i64 0, .int .i64 0, .int .i64 0, .slice none 0 0, .slice none 0 0, .slice none 0 0]) ?_ 1 _ rfl; (with_reducible repeat (first | refine blk_drewN ?_ _ | refine blk_drew ?_ | refine blk_alloc ?_ _)); refine blk_put (cs := #[.int .i64 0, .slice none 0 0, .string (⟨#[]⟩ : ByteArray), .int .i64 0, .slice none 0 0, .int .i64 0, .int .i64 0, .int .i64 0, .slice none 0 0, .slice none 0 0, .int .i64 0, .int .i64 0, .int .i64 0, .slice none 0 0, .slice none 0 0, .slice none 0 0]) ?_ 0 _ rfl; (with_reducible repeat (first | refine blk_drewN ?_ _ | refine blk_drew ?_ | refine blk_alloc ?_ _)); exact BK181.out) hb); have n4_ := Aside0.mk (below_stepA hb); clear HO_7; clear BK176; clear BK177; clear BK181; clear HB; have HO_7 := n0_; have BK176 := n1_; have BK177 := n2_; have BK181 := n3_; have HB := n4_; clear n0_ n1_ n2_ n3_ n4_; (try clear hb); (try clear hb2); (try clear hk); (try clear hi); obtain ⟨hcz32_0, hcz32_1, hcz32_2, hcz32_3, hcz32_4, hcz32_5, hcz32_6, hcz32_7, hcz32_8, hcz32_9, hcz32_10, hcz32_11, hcz32_12, hcz32_13, hcz32_14, hcz32_15, hfz32_0, hfz32_1, hfz32_2, hfz32_3, hfz32_4, hfz32_5, hfz32_6, hfz32_7, hfz32_8, hfz32_9, hfz32_10, hfz32_11, hfz32_12, hfz32_13, hfz32_14, hfz32_15⟩ := blk16 BK181.out; have hnb33 := NB177_176.out; have hnc33 := NB176_177.out; obtain ⟨hcz34_0, hcz34_1, hcz34_2, hcz34_3, hcz34_4, hcz34_5, hfz34_0, hfz34_1, hfz34_2, hfz34_3, hfz34_4, hfz34_5⟩ := blk6 BK177.out; obtain ⟨Ao35, co35, eo35⟩ := Kd.R_slice HO_7.out; subst eo35) | ((with_reducible refine gate_callee (f := 26) rfl ?_); refine goesL_ (some 34) rfl rfl Try.func26 (by kernel_rfl) rfl #[.agg #[.int .i64 ((rd_T44 l0_1 x22_2).f0), .slice A180_1 ((rd_T44 l0_1 x22_2).f1).length c180_1, .string ((rd_T44 l0_1 x22_2).f2), .int .i64 ((rd_T44 l0_1 x22_2).f3), .slice A180_4 ((rd_T44 l0_1 x22_2).f4).length c180_4, .int .i64 ((rd_T44 l0_1 x22_2).f5), .int .i64 ((rd_T44 l0_1 x22_2).f6), .int .i64 ((rd_T44 l0_1 x22_2).f7), .slice A180_8 ((rd_T44 l0_1 x22_2).f8).length c180_8, .slice A180_9 ((rd_T44 l0_1 x22_2).f9).length c180_9, .int .i64 ((rd_T44 l0_1 x22_2).f10), .int .i64 ((rd_T44 l0_1 x22_2).f11), .int .i64 ((rd_T44 l0_1 x22_2).f12), .slice A180_13 ((rd_T44 l0_1 x22_2).f13).length c180_13, .slice A180_14 ((rd_T44 l0_1 x22_2).f14).length c180_14, .slice A180_15 ((rd_T44 l0_1 x22_2).f15).length c180_15], .slice Ao35 x7_2.length co35, .agg #[.int .i64 a1_0, .int .i64 a1_1, .int .i64 a1_2, .int .i64 a1_3, .int .i64 a1_4, .int .i64 a1_5]] rfl (by (try simp only [List.map_toArray, List.map_cons, List.map_nil]); first | done | rfl | (simp only [List.length_drop, List.length_take]; rfl)) ?_; (with_reducible refine (bounds_bound.calls k2 ((rd_T44 l0_1 x22_2).f0) _ _ ((rd_T44 l0_1 x22_2).f1) ((rd_T44 l0_1 x22_2).f2) ((rd_T44 l0_1 x22_2).f3) _ _ ((rd_T44 l0_1 x22_2).f4) ((rd_T44 l0_1 x22_2).f5) ((rd_T44 l0_1 x22_2).f6) ((rd_T44 l0_1 x22_2).f7) _ _ ((rd_T44 l0_1 x22_2).f8) _ _ ((rd_T44 l0_1 x22_2).f9) ((rd_T44 l0_1 x22_2).f10) ((rd_T44 l0_1 x22_2).f11) ((rd_T44 l0_1 x22_2).f12) _ _ ((rd_T44 l0_1 x22_2).f13) _ _ ((rd_T44 l0_1 x22_2).f14) _ _ ((rd_T44 l0_1 x22_2).f15) _ _ x7_2 a1_0 a1_1 a1_2 a1_3 a1_4 a1_5 t183 t184 t185 t186 _ ?side1 ?side2 ?side3 ?side4 ?side5 ?side6 ?side7 ?side8 ?side9 ?side10 ?side11 ?side12 ?side13 ?side14 ?side15 ?side16 A25.out).mono ?_); (case side1 => exact c_belowA HR180_1.out); (case side2 => exact HC180_1.out); (case side3 => exact c_belowA HR180_4.out); (case side4 => exact HC180_4.out); (case side5 => exact c_belowA HR180_8.out); (case side6 => exact HC180_8.out); (case side7 => exact c_belowA HR180_9.out); (case side8 => exact HC180_9.out); (case side9 => exact c_belowA HR180_13.out); (case side10 => exact HC180_13.out); (case side11 => exact c_belowA HR180_14.out); (case side12 => exact HC180_14.out); (case side13 => exact c_belowA HR180_15.out); (case side14 => exact HC180_15.out); (case side15 => repeat (first | exact (Kd.R_reads' HO_7.out).2.2 | (with_reducible refine Kd.C_alloc ?_ _) | (with_reducible refine Kd.C_drewN ?_ _) | (with_reducible refine Kd.C_drew ?_))); (case side16 => exact (Kd.R_reads' HO_7.out).2.1); rintro e w36 ⟨rfl, hb⟩; refine ⟨_, rfl, ?_⟩; have n0_ := Aside0.mk (Kd.R_below (by (with_reducible repeat (first | apply Kd.R_alloc | apply Kd.R_drewN | apply Kd.R_drew)); exact HO_7.out) hb); have n1_ := Aside0.mk (blk_keepA BK176.out hb); have n2_ := Aside0.mk (blk_keepA BK177.out hb); have n3_ := Aside0.mk (blk_keepA BK181.out hb); have n4_ := Aside0.mk (below_stepA hb); clear HO_7; clear BK176; clear BK177; clear BK181; clear HB; have HO_7 := n0_; have BK176 := n1_; have BK177 := n2_; have BK181 := n3_; have HB := n4_; clear n0_ n1_ n2_ n3_ n4_; (try clear hb); (try clear hb2); (try clear hk); (try clear hi)) | ((with_reducible refine gate_dst (N := 10) rfl ?_); refine box_event ?hg (N := 10) ?hd (cs := #[.int .i64 0, .int .i64 0, .int .i64 0, .int .i64 0]) (t := 37) ?hr ?_; (case hd => rfl); (case hg => rfl); (case hr => first | (go_simp; done) | (go_simp; rfl)); intro gb187 hg w37 hbox hb; have n0_ := Aside0.mk (Kd.R_below (Kd.R_elderB (by (with_reducible repeat (first | apply Kd.R_alloc | apply Kd.R_drewN | apply Kd.R_drew)); exact HO_7.out) gb187 (Nat.le_of_eq hg.symm)) hb); have n1_ := Aside0.mk (blk_keepA BK176.out hb); have n2_ := Aside0.mk (blk_keepA BK177.out hb); have n3_ := Aside0.mk (blk_keepA BK181.out hb); have n4_ := Aside0.mk (below_stepA hb); have n5_ := Aside0.mk (hbox); have n6_ := Aside0.mk ((by rw [hg]; exact below_sizeA : w.heap.size ≤ gb187)); have n7_ := Aside0.mk ((by rw [hg]; exact below_sizeA : w.heap.size ≤ gb187)); have n8_ := Aside0.mk ((by rw [hg]; exact Nat.ne_of_lt (blk_ltKA BK176.out) : gb176 ≠ gb187)); have n9_ := Aside0.mk ((by rw [hg]; exact Nat.ne_of_gt (blk_ltKA BK176.out) : gb187 ≠ gb176)); have n10_ := Aside0.mk ((by rw [hg]; exact Nat.ne_of_lt (blk_ltKA BK177.out) : gb177 ≠ gb187)); have n11_ := Aside0.mk ((by rw [hg]; exact Nat.ne_of_gt (blk_ltKA BK177.out) : gb187 ≠ gb177)); have n12_ := Aside0.mk ((by rw [hg]; exact Nat.ne_of_lt (blk_ltKA BK181.out) : gb181 ≠ gb187)); have n13_ := Aside0.mk ((by rw [hg]; exact Nat.ne_of_gt (blk_ltKA BK181.out) : gb187 ≠ gb181)); clear HO_7; clear BK176; clear BK177; clear BK181; clear HB; have HO_7 := n0_; have BK176 := n1_; have BK177 := n2_; have BK181 := n3_; have HB := n4_; have BK187 := n5_; have GW187 := n6_; have GE187 := n7_; have NB176_187 := n8_; have NB187_176 := n9_; have NB177_187 := n10_; have NB187_177 := n11_; have NB181_187 := n12_; have NB187_181 := n13_; clear n0_ n1_ n2_ n3_ n4_ n5_ n6_ n7_ n8_ n9_ n10_ n11_ n12_ n13_; clear hb hbox hg; have hnb38 := NB187_176.out; have hnc38 := NB176_187.out; have hnb39 := NB187_177.out; have hnc39 := NB177_187.out; have hnb40 := NB187_181.out; have hnc40 := NB181_187.out; obtain ⟨hcz41_0, hcz41_1, hcz41_2, hcz41_3, hfz41_0, hfz41_1, hfz41_2, hfz41_3⟩ := blk4 BK187.out))
           go_ret3
           exact ⟨_, by first | rfl | (simp [errW_none, errW_some] <;> rfl) | (simp [*, errW_none, errW_some] <;> rfl), by first | exact Kd.R_nil _ _ _ _ _ | exact Kd.N_nil _ _ _ _ _ | exact Kd.V_nil _ _ _ _ _ | exact Kd.Q_nil _ _ _ _ _ | exact Kd.S_nil _ _ _ _ _, by repeat (first | (with_reducible first | exact HB.out | apply below_alloc | apply pw_below_drewN | apply below_drew1 | refine below_set ?_ GE176.out | refine below_set ?_ GE177.out | refine below_set ?_ GE181.out | refine below_set ?_ GE187.out) | exact HB.out)⟩
          ·
           rw [if_neg c26] at H
           have c26b0 : decide (1099511627776 ≤ t185) = false := decide_eq_false c26
           clear c26
           by_cases c42 : t186 ≥ 1099511627776
           ·
            rw [if_pos c42] at H
            have c42b0 : decide (1099511627776 ≤ t186) = true := decide_eq_true c42
            clear c42
            simp only [Option.some.injEq, Prod.mk.injEq] at H
            obtain ⟨rfl, rfl, rfl⟩ := H
            have p180 : 0 ≤ (x22_2 : Int) := of_decide_eq_true (by first | (with_reducible assumption) | assumption)
            have q180 : x22_2 < (l0_1.length : Int) := of_decide_eq_true (by first | (with_reducible assumption) | assumption)
            obtain ⟨ad180, A180_1, c180_1, A180_4, c180_4, A180_8, c180_8, A180_9, c180_9, A180_13, c180_13, A180_14, c180_14, A180_15, c180_15, e180, hx180_0, hx180_1, hx180_2, hx180_3, hx180_4, hx180_5, hx180_6, hx180_7, hx180_8, hx180_9, hx180_10, hx180_11, hx180_12, hx180_13, hx180_14, hx180_15, hl180_1, hi180_1, hl180_4, hi180_4, hl180_8, hi180_8, hl180_9, hi180_9, hl180_13, hi180_13, hl180_14, hi180_14, hl180_15, hi180_15⟩ := at_T44 HR0_1.out x22_2 p180 q180
            cases e180
            replace hx180_0 := (HB.out.cell (World.block_lt_of_cell? w _ hx180_0)).trans hx180_0
            replace hx180_1 := (HB.out.cell (World.block_lt_of_cell? w _ hx180_1)).trans hx180_1
            replace hx180_2 := (HB.out.cell (World.block_lt_of_cell? w _ hx180_2)).trans hx180_2
            replace hx180_3 := (HB.out.cell (World.block_lt_of_cell? w _ hx180_3)).trans hx180_3
            replace hx180_4 := (HB.out.cell (World.block_lt_of_cell? w _ hx180_4)).trans hx180_4
            replace hx180_5 := (HB.out.cell (World.block_lt_of_cell? w _ hx180_5)).trans hx180_5
            replace hx180_6 := (HB.out.cell (World.block_lt_of_cell? w _ hx180_6)).trans hx180_6
            replace hx180_7 := (HB.out.cell (World.block_lt_of_cell? w _ hx180_7)).trans hx180_7
            replace hx180_8 := (HB.out.cell (World.block_lt_of_cell? w _ hx180_8)).trans hx180_8
            replace hx180_9 := (HB.out.cell (World.block_lt_of_cell? w _ hx180_9)).trans hx180_9
            replace hx180_10 := (HB.out.cell (World.block_lt_of_cell? w _ hx180_10)).trans hx180_10
            replace hx180_11 := (HB.out.cell (World.block_lt_of_cell? w _ hx180_11)).trans hx180_11
            replace hx180_12 := (HB.out.cell (World.block_lt_of_cell? w _ hx180_12)).trans hx180_12
            replace hx180_13 := (HB.out.cell (World.block_lt_of_cell? w _ hx180_13)).trans hx180_13
            replace hx180_14 := (HB.out.cell (World.block_lt_of_cell? w _ hx180_14)).trans hx180_14
            replace hx180_15 := (HB.out.cell (World.block_lt_of_cell? w _ hx180_15)).trans hx180_15
            have HR180_1 := Aside0.mk hi180_1
            have HC180_1 := Aside0.mk hl180_1
            clear hi180_1 hl180_1
            have HR180_4 := Aside0.mk hi180_4
            have HC180_4 := Aside0.mk hl180_4
            clear hi180_4 hl180_4
            have HR180_8 := Aside0.mk hi180_8
            have HC180_8 := Aside0.mk hl180_8
            clear hi180_8 hl180_8
            have HR180_9 := Aside0.mk hi180_9
            have HC180_9 := Aside0.mk hl180_9
            clear hi180_9 hl180_9
            have HR180_13 := Aside0.mk hi180_13
            have HC180_13 := Aside0.mk hl180_13
            clear hi180_13 hl180_13
            have HR180_14 := Aside0.mk hi180_14
            have HC180_14 := Aside0.mk hl180_14
            clear hi180_14 hl180_14
            have HR180_15 := Aside0.mk hi180_15
            have HC180_15 := Aside0.mk hl180_15
            clear hi180_15 hl180_15
            replace p180 := eq_true p180
            replace q180 := eq_true q180
            go_wp2_with (first | ((with_reducible refine gate_dst (N := 9) rfl ?_); refine box_event ?hg (N := 9) ?hd (cs := #[.int .i64 0, .slice none 0 0, .string (⟨#[]⟩ : ByteArray), .int .i64 0, .slice none 0 0, .int .i64 0, .int .i64 0, .int .i64 0, .slice none 0 0, .slice none 0 0, .int .i64 0, .int .i64 0, .int .i64 0, .slice none 0 0, .slice none 0 0, .slice none 0 0]) (t := 44) ?hr ?_; (case hd => rfl); (case hg => rfl); (case hr => first | (go_simp; done) | (go_simp; rfl)); intro gb181 hg w43 hbox hb; have n0_ := Aside0.mk (Kd.R_below (by (with_reducible repeat (first | apply Kd.R_alloc | apply Kd.R_drewN | apply Kd.R_drew)); exact HO_7.out) hb); have n1_ := Aside0.mk (blk_keepA BK176.out hb); have n2_ := Aside0.mk (blk_keepA BK177.out hb); have n3_ := Aside0.mk (below_stepA hb); have n4_ := Aside0.mk (hbox); have n5_ := Aside0.mk ((by rw [hg]; exact below_sizeA : w.heap.size ≤ gb181)); have n6_ := Aside0.mk ((by rw [hg]; exact below_sizeA : w.heap.size ≤ gb181)); have n7_ := Aside0.mk ((by rw [hg]; exact Nat.ne_of_lt (blk_ltKA BK176.out) : gb176 ≠ gb181)); have n8_ := Aside0.mk ((by rw [hg]; exact Nat.ne_of_gt (blk_ltKA BK176.out) : gb181 ≠ gb176)); have n9_ := Aside0.mk ((by rw [hg]; exact Nat.ne_of_lt (blk_ltKA BK177.out) : gb177 ≠ gb181)); have n10_ := Aside0.mk ((by rw [hg]; exact Nat.ne_of_gt (blk_ltKA BK177.out) : gb181 ≠ gb177)); clear HO_7; clear BK176; clear BK177; clear HB; have HO_7 := n0_; have BK176 := n1_; have BK177 := n2_; have HB := n3_; have BK181 := n4_; have GW181 := n5_; have GE181 := n6_; have NB176_181 := n7_; have NB181_176 := n8_; have NB177_181 := n9_; have NB181_177 := n10_; clear n0_ n1_ n2_ n3_ n4_ n5_ n6_ n7_ n8_ n9_ n10_; clear hb hbox hg; have hnb44 := NB181_176.out; have hnc44 := NB176_181.out; have hnb45 := NB181_177.out; have hnc45 := NB177_181.out; obtain ⟨hcz46_0, hcz46_1, hcz46_2, hcz46_3, hcz46_4, hcz46_5, hcz46_6, hcz46_7, hcz46_8, hcz46_9, hcz46_10, hcz46_11, hcz46_12, hcz46_13, hcz46_14, hcz46_15, hfz46_0, hfz46_1, hfz46_2, hfz46_3, hfz46_4, hfz46_5, hfz46_6, hfz46_7, hfz46_8, hfz46_9, hfz46_10, hfz46_11, hfz46_12, hfz46_13, hfz46_14, hfz46_15⟩ := blk16 BK181.out) | ((with_reducible refine gate_callee (f := 12) rfl ?_); refine goesL_ (some 28) rfl rfl Try.func12 (by kernel_rfl) rfl #[.agg #[.int .i64 ((rd_T44 l0_1 x22_2).f0), .slice A180_1 ((rd_T44 l0_1 x22_2).f1).length c180_1, .string ((rd_T44 l0_1 x22_2).f2), .int .i64 ((rd_T44 l0_1 x22_2).f3), .slice A180_4 ((rd_T44 l0_1 x22_2).f4).length c180_4, .int .i64 ((rd_T44 l0_1 x22_2).f5), .int .i64 ((rd_T44 l0_1 x22_2).f6), .int .i64 ((rd_T44 l0_1 x22_2).f7), .slice A180_8 ((rd_T44 l0_1 x22_2).f8).length c180_8, .slice A180_9 ((rd_T44 l0_1 x22_2).f9).length c180_9, .int .i64 ((rd_T44 l0_1 x22_2).f10), .int .i64 ((rd_T44 l0_1 x22_2).f11), .int .i64 ((rd_T44 l0_1 x22_2).f12), .slice A180_13 ((rd_T44 l0_1 x22_2).f13).length c180_13, .slice A180_14 ((rd_T44 l0_1 x22_2).f14).length c180_14, .slice A180_15 ((rd_T44 l0_1 x22_2).f15).length c180_15]] rfl (by (try simp only [List.map_toArray, List.map_cons, List.map_nil]); first | done | rfl | (simp only [List.length_drop, List.length_take]; rfl)) ?_; (with_reducible refine (bounds_Bounded.calls ((rd_T44 l0_1 x22_2).f0) _ _ ((rd_T44 l0_1 x22_2).f1) ((rd_T44 l0_1 x22_2).f2) ((rd_T44 l0_1 x22_2).f3) _ _ ((rd_T44 l0_1 x22_2).f4) ((rd_T44 l0_1 x22_2).f5) ((rd_T44 l0_1 x22_2).f6) ((rd_T44 l0_1 x22_2).f7) _ _ ((rd_T44 l0_1 x22_2).f8) _ _ ((rd_T44 l0_1 x22_2).f9) ((rd_T44 l0_1 x22_2).f10) ((rd_T44 l0_1 x22_2).f11) ((rd_T44 l0_1 x22_2).f12) _ _ ((rd_T44 l0_1 x22_2).f13) _ _ ((rd_T44 l0_1 x22_2).f14) _ _ ((rd_T44 l0_1 x22_2).f15) true _ ?side1 ?side2 ?side3 ?side4 ?side5 ?side6 ?side7 ?side8 ?side9 ?side10 ?side11 ?side12 ?side13 ?side14 A23.out).mono ?_); (case side1 => exact Kd.C_below HR180_1.out (by repeat (first | (with_reducible first | exact HB.out | apply below_alloc | apply pw_below_drewN | apply below_drew1 | refine below_set ?_ GE176.out | refine below_set ?_ GE177.out | refine below_set ?_ GE181.out) | exact HB.out))); (case side2 => exact HC180_1.out); (case side3 => exact Kd.C_below HR180_4.out (by repeat (first | (with_reducible first | exact HB.out | apply below_alloc | apply pw_below_drewN | apply below_drew1 | refine below_set ?_ GE176.out | refine below_set ?_ GE177.out | refine below_set ?_ GE181.out) | exact HB.out))); (case side4 => exact HC180_4.out); (case side5 => exact Kd.C_below HR180_8.out (by repeat (first | (with_reducible first | exact HB.out | apply below_alloc | apply pw_below_drewN | apply below_drew1 | refine below_set ?_ GE176.out | refine below_set ?_ GE177.out | refine below_set ?_ GE181.out) | exact HB.out))); (case side6 => exact HC180_8.out); (case side7 => exact Kd.C_below HR180_9.out (by repeat (first | (with_reducible first | exact HB.out | apply below_alloc | apply pw_below_drewN | apply below_drew1 | refine below_set ?_ GE176.out | refine below_set ?_ GE177.out | refine below_set ?_ GE181.out) | exact HB.out))); (case side8 => exact HC180_9.out); (case side9 => exact Kd.C_below HR180_13.out (by repeat (first | (with_reducible first | exact HB.out | apply below_alloc | apply pw_below_drewN | apply below_drew1 | refine below_set ?_ GE176.out | refine below_set ?_ GE177.out | refine below_set ?_ GE181.out) | exact HB.out))); (case side10 => exact HC180_13.out); (case side11 => exact Kd.C_below HR180_14.out (by repeat (first | (with_reducible first | exact HB.out | apply below_alloc | apply pw_below_drewN | apply below_drew1 | refine below_set ?_ GE176.out | refine below_set ?_ GE177.out | refine below_set ?_ GE181.out) | exact HB.out))); (case side12 => exact HC180_14.out); (case side13 => exact Kd.C_below HR180_15.out (by repeat (first | (with_reducible first | exact HB.out | apply below_alloc | apply pw_below_drewN | apply below_drew1 | refine below_set ?_ GE176.out | refine below_set ?_ GE177.out | refine below_set ?_ GE181.out) | exact HB.out))); (case side14 => exact HC180_15.out); rintro e w47 ⟨rfl, hb⟩; refine ⟨_, rfl, ?_⟩; have n0_ := Aside0.mk (Kd.R_below (by (with_reducible repeat (first | apply Kd.R_alloc | apply Kd.R_drewN | apply Kd.R_drew)); exact (Kd.R_mono (Kd.R_far (p := ⟨gb181, 15, none⟩) (Kd.R_far (p := ⟨gb181, 14, none⟩) (Kd.R_far (p := ⟨gb181, 13, none⟩) (Kd.R_far (p := ⟨gb181, 12, none⟩) (Kd.R_far (p := ⟨gb181, 11, none⟩) (Kd.R_far (p := ⟨gb181, 10, none⟩) (Kd.R_far (p := ⟨gb181, 9, none⟩) (Kd.R_far (p := ⟨gb181, 8, none⟩) (Kd.R_far (p := ⟨gb181, 7, none⟩) (Kd.R_far (p := ⟨gb181, 6, none⟩) (Kd.R_far (p := ⟨gb181, 5, none⟩) (Kd.R_far (p := ⟨gb181, 4, none⟩) (Kd.R_far (p := ⟨gb181, 3, none⟩) (Kd.R_far (p := ⟨gb181, 2, none⟩) (Kd.R_far (p := ⟨gb181, 1, none⟩) (Kd.R_far (p := ⟨gb181, 0, none⟩) (Kd.R_types HO_7.out BK181.out (by decide)) (fun _ hk => hk.2) (.int .i64 ((rd_T44 l0_1 x22_2).f0))) (fun _ hk => hk.2) (.slice A180_1 ((rd_T44 l0_1 x22_2).f1).length c180_1)) (fun _ hk => hk.2) (.string ((rd_T44 l0_1 x22_2).f2))) (fun _ hk => hk.2) (.int .i64 ((rd_T44 l0_1 x22_2).f3))) (fun _ hk => hk.2) (.slice A180_4 ((rd_T44 l0_1 x22_2).f4).length c180_4)) (fun _ hk => hk.2) (.int .i64 ((rd_T44 l0_1 x22_2).f5))) (fun _ hk => hk.2) (.int .i64 ((rd_T44 l0_1 x22_2).f6))) (fun _ hk => hk.2) (.int .i64 ((rd_T44 l0_1 x22_2).f7))) (fun _ hk => hk.2) (.slice A180_8 ((rd_T44 l0_1 x22_2).f8).length c180_8)) (fun _ hk => hk.2) (.slice A180_9 ((rd_T44 l0_1 x22_2).f9).length c180_9)) (fun _ hk => hk.2) (.int .i64 ((rd_T44 l0_1 x22_2).f10))) (fun _ hk => hk.2) (.int .i64 ((rd_T44 l0_1 x22_2).f11))) (fun _ hk => hk.2) (.int .i64 ((rd_T44 l0_1 x22_2).f12))) (fun _ hk => hk.2) (.slice A180_13 ((rd_T44 l0_1 x22_2).f13).length c180_13)) (fun _ hk => hk.2) (.slice A180_14 ((rd_T44 l0_1 x22_2).f14).length c180_14)) (fun _ hk => hk.2) (.slice A180_15 ((rd_T44 l0_1 x22_2).f15).length c180_15)) (fun _ h_ => h_.1))) hb); have n1_ := Aside0.mk (blk_keep BK176.out (fun h_ => by (with_reducible repeat (first | refine blk_drewN ?_ _ | refine blk_drew ?_ | refine blk_alloc ?_ _)); refine blk_far ?_ NB176_181.out _; (with_reducible repeat (first | refine blk_drewN ?_ _ | refine blk_drew ?_ | refine blk_alloc ?_ _)); refine blk_far ?_ NB176_181.out _; (with_reducible repeat (first | refine blk_drewN ?_ _ | refine blk_drew ?_ | refine blk_alloc ?_ _)); refine blk_far ?_ NB176_181.out _; (with_reducible repeat (first | refine blk_drewN ?_ _ | refine blk_drew ?_ | refine blk_alloc ?_ _)); refine blk_far ?_ NB176_181.out _; (with_reducible repeat (first | refine blk_drewN ?_ _ | refine blk_drew ?_ | refine blk_alloc ?_ _)); refine blk_far ?_ NB176_181.out _; (with_reducible repeat (first | refine blk_drewN ?_ _ | refine blk_drew ?_ | refine blk_alloc ?_ _)); refine blk_far ?_ NB176_181.out _; (with_reducible repeat (first | refine blk_drewN ?_ _ | refine blk_drew ?_ | refine blk_alloc ?_ _)); refine blk_far ?_ NB176_181.out _; (with_reducible repeat (first | refine blk_drewN ?_ _ | refine blk_drew ?_ | refine blk_alloc ?_ _)); refine blk_far ?_ NB176_181.out _; (with_reducible repeat (first | refine blk_drewN ?_ _ | refine blk_drew ?_ | refine blk_alloc ?_ _)); refine blk_far ?_ NB176_181.out _; (with_reducible repeat (first | refine blk_drewN ?_ _ | refine blk_drew ?_ | refine blk_alloc ?_ _)); refine blk_far ?_ NB176_181.out _; (with_reducible repeat (first | refine blk_drewN ?_ _ | refine blk_drew ?_ | refine blk_alloc ?_ _)); refine blk_far ?_ NB176_181.out _; (with_reducible repeat (first | refine blk_drewN ?_ _ | refine blk_drew ?_ | refine blk_alloc ?_ _)); refine blk_far ?_ NB176_181.out _; (with_reducible repeat (first | refine blk_drewN ?_ _ | refine blk_drew ?_ | refine blk_alloc ?_ _)); refine blk_far ?_ NB176_181.out _; (with_reducible repeat (first | refine blk_drewN ?_ _ | refine blk_drew ?_ | refine blk_alloc ?_ _)); refine blk_far ?_ NB176_181.out _; (with_reducible repeat (first | refine blk_drewN ?_ _ | refine blk_drew ?_ | refine blk_alloc ?_ _)); refine blk_far ?_ NB176_181.out _; (with_reducible repeat (first | refine blk_drewN ?_ _ | refine blk_drew ?_ | refine blk_alloc ?_ _)); refine blk_far ?_ NB176_181.out _; (with_reducible repeat (first | refine blk_drewN ?_ _ | refine blk_drew ?_ | refine blk_alloc ?_ _)); exact h_) hb); have n2_ := Aside0.mk (blk_keep BK177.out (fun h_ => by (with_reducible repeat (first | refine blk_drewN ?_ _ | refine blk_drew ?_ | refine blk_alloc ?_ _)); refine blk_far ?_ NB177_181.out _; (with_reducible repeat (first | refine blk_drewN ?_ _ | refine blk_drew ?_ | refine blk_alloc ?_ _)); refine blk_far ?_ NB177_181.out _; (with_reducible repeat (first | refine blk_drewN ?_ _ | refine blk_drew ?_ | refine blk_alloc ?_ _)); refine blk_far ?_ NB177_181.out _; (with_reducible repeat (first | refine blk_drewN ?_ _ | refine blk_drew ?_ | refine blk_alloc ?_ _)); refine blk_far ?_ NB177_181.out _; (with_reducible repeat (first | refine blk_drewN ?_ _ | refine blk_drew ?_ | refine blk_alloc ?_ _)); refine blk_far ?_ NB177_181.out _; (with_reducible repeat (first | refine blk_drewN ?_ _ | refine blk_drew ?_ | refine blk_alloc ?_ _)); refine blk_far ?_ NB177_181.out _; (with_reducible repeat (first | refine blk_drewN ?_ _ | refine blk_drew ?_ | refine blk_alloc ?_ _)); refine blk_far ?_ NB177_181.out _; (with_reducible repeat (first | refine blk_drewN ?_ _ | refine blk_drew ?_ | refine blk_alloc ?_ _)); refine blk_far ?_ NB177_181.out _; (with_reducible repeat (first | refine blk_drewN ?_ _ | refine blk_drew ?_ | refine blk_alloc ?_ _)); refine blk_far ?_ NB177_181.out _; (with_reducible repeat (first | refine blk_drewN ?_ _ | refine blk_drew ?_ | refine blk_alloc ?_ _)); refine blk_far ?_ NB177_181.out _; (with_reducible repeat (first | refine blk_drewN ?_ _ | refine blk_drew ?_ | refine blk_alloc ?_ _)); refine blk_far ?_ NB177_181.out _; (with_reducible repeat (first | refine blk_drewN ?_ _ | refine blk_drew ?_ | refine blk_alloc ?_ _)); refine blk_far ?_ NB177_181.out _; (with_reducible repeat (first | refine blk_drewN ?_ _ | refine blk_drew ?_ | refine blk_alloc ?_ _)); refine blk_far ?_ NB177_181.out _; (with_reducible repeat (first | refine blk_drewN ?_ _ | refine blk_drew ?_ | refine blk_alloc ?_ _)); refine blk_far ?_ NB177_181.out _; (with_reducible repeat (first | refine blk_drewN ?_ _ | refine blk_drew ?_ | refine blk_alloc ?_ _)); refine blk_far ?_ NB177_181.out _; (with_reducible repeat (first | refine blk_drewN ?_ _ | refine blk_drew ?_ | refine blk_alloc ?_ _)); refine blk_far ?_ NB177_181.out _; (with_reducible repeat (first | refine blk_drewN ?_ _ | refine blk_drew ?_ | refine blk_alloc ?_ _)); exact h_) hb); have n3_ := Aside0.mk (blk_below (g := gb181) (o := .cells #[.int .i64 ((rd_T44 l0_1 x22_2).f0), .slice A180_1 ((rd_T44 l0_1 x22_2).f1).length c180_1, .string ((rd_T44 l0_1 x22_2).f2), .int .i64 ((rd_T44 l0_1 x22_2).f3), .slice A180_4 ((rd_T44 l0_1 x22_2).f4).length c180_4, .int .i64 ((rd_T44 l0_1 x22_2).f5), .int .i64 ((rd_T44 l0_1 x22_2).f6), .int .i64 ((rd_T44 l0_1 x22_2).f7), .slice A180_8 ((rd_T44 l0_1 x22_2).f8).length c180_8, .slice A180_9 ((rd_T44 l0_1 x22_2).f9).length c180_9, .int .i64 ((rd_T44 l0_1 x22_2).f10), .int .i64 ((rd_T44 l0_1 x22_2).f11), .int .i64 ((rd_T44 l0_1 x22_2).f12), .slice A180_13 ((rd_T44 l0_1 x22_2).f13).length c180_13, .slice A180_14 ((rd_T44 l0_1 x22_2).f14).length c180_14, .slice A180_15 ((rd_T44 l0_1 x22_2).f15).length c180_15] 44 (0, 0)) (by (with_reducible repeat (first | refine blk_drewN ?_ _ | refine blk_drew ?_ | refine blk_alloc ?_ _)); refine blk_put (cs := #[.int .i64 ((rd_T44 l0_1 x22_2).f0), .slice A180_1 ((rd_T44 l0_1 x22_2).f1).length c180_1, .string ((rd_T44 l0_1 x22_2).f2), .int .i64 ((rd_T44 l0_1 x22_2).f3), .slice A180_4 ((rd_T44 l0_1 x22_2).f4).length c180_4, .int .i64 ((rd_T44 l0_1 x22_2).f5), .int .i64 ((rd_T44 l0_1 x22_2).f6), .int .i64 ((rd_T44 l0_1 x22_2).f7), .slice A180_8 ((rd_T44 l0_1 x22_2).f8).length c180_8, .slice A180_9 ((rd_T44 l0_1 x22_2).f9).length c180_9, .int .i64 ((rd_T44 l0_1 x22_2).f10), .int .i64 ((rd_T44 l0_1 x22_2).f11), .int .i64 ((rd_T44 l0_1 x22_2).f12), .slice A180_13 ((rd_T44 l0_1 x22_2).f13).length c180_13, .slice A180_14 ((rd_T44 l0_1 x22_2).f14).length c180_14, .slice none 0 0]) ?_ 15 _ rfl; (with_reducible repeat (first | refine blk_drewN ?_ _ | refine blk_drew ?_ | refine blk_alloc ?_ _)); refine blk_put (cs := #[.int .i64 ((rd_T44 l0_1 x22_2).f0), .slice A180_1 ((rd_T44 l0_1 x22_2).f1).length c180_1, .string ((rd_T44 l0_1 x22_2).f2), .int .i64 ((rd_T44 l0_1 x22_2).f3), .slice A180_4 ((rd_T44 l0_1 x22_2).f4).length c180_4, .int .i64 ((rd_T44 l0_1 x22_2).f5), .int .i64 ((rd_T44 l0_1 x22_2).f6), .int .i64 ((rd_T44 l0_1 x22_2).f7), .slice A180_8 ((rd_T44 l0_1 x22_2).f8).length c180_8, .slice A180_9 ((rd_T44 l0_1 x22_2).f9).length c180_9, .int .i64 ((rd_T44 l0_1 x22_2).f10), .int .i64 ((rd_T44 l0_1 x22_2).f11), .int .i64 ((rd_T44 l0_1 x22_2).f12), .slice A180_13 ((rd_T44 l0_1 x22_2).f13).length c180_13, .slice none 0 0, .slice none 0 0]) ?_ 14 _ rfl; (with_reducible repeat (first | refine blk_drewN ?_ _ | refine blk_drew ?_ | refine blk_alloc ?_ _)); refine blk_put (cs := #[.int .i64 ((rd_T44 l0_1 x22_2).f0), .slice A180_1 ((rd_T44 l0_1 x22_2).f1).length c180_1, .string ((rd_T44 l0_1 x22_2).f2), .int .i64 ((rd_T44 l0_1 x22_2).f3), .slice A180_4 ((rd_T44 l0_1 x22_2).f4).length c180_4, .int .i64 ((rd_T44 l0_1 x22_2).f5), .int .i64 ((rd_T44 l0_1 x22_2).f6), .int .i64 ((rd_T44 l0_1 x22_2).f7), .slice A180_8 ((rd_T44 l0_1 x22_2).f8).length c180_8, .slice A180_9 ((rd_T44 l0_1 x22_2).f9).length c180_9, .int .i64 ((rd_T44 l0_1 x22_2).f10), .int .i64 ((rd_T44 l0_1 x22_2).f11), .int .i64 ((rd_T44 l0_1 x22_2).f12), .slice none 0 0, .slice none 0 0, .slice none 0 0]) ?_ 13 _ rfl; (with_reducible repeat (first | refine blk_drewN ?_ _ | refine blk_drew ?_ | refine blk_alloc ?_ _)); refine blk_put (cs := #[.int .i64 ((rd_T44 l0_1 x22_2).f0), .slice A180_1 ((rd_T44 l0_1 x22_2).f1).length c180_1, .string ((rd_T44 l0_1 x22_2).f2), .int .i64 ((rd_T44 l0_1 x22_2).f3), .slice A180_4 ((rd_T44 l0_1 x22_2).f4).length c180_4, .int .i64 ((rd_T44 l0_1 x22_2).f5), .int .i64 ((rd_T44 l0_1 x22_2).f6), .int .i64 ((rd_T44 l0_1 x22_2).f7), .slice A180_8 ((rd_T44 l0_1 x22_2).f8).length c180_8, .slice A180_9 ((rd_T44 l0_1 x22_2).f9).length c180_9, .int .i64 ((rd_T44 l0_1 x22_2).f10), .int .i64 ((rd_T44 l0_1 x22_2).f11), .int .i64 0, .slice none 0 0, .slice none 0 0, .slice none 0 0]) ?_ 12 _ rfl; (with_reducible repeat (first | refine blk_drewN ?_ _ | refine blk_drew ?_ | refine blk_alloc ?_ _)); refine blk_put (cs := #[.int .i64 ((rd_T44 l0_1 x22_2).f0), .slice A180_1 ((rd_T44 l0_1 x22_2).f1).length c180_1, .string ((rd_T44 l0_1 x22_2).f2), .int .i64 ((rd_T44 l0_1 x22_2).f3), .slice A180_4 ((rd_T44 l0_1 x22_2).f4).length c180_4, .int .i64 ((rd_T44 l0_1 x22_2).f5), .int .i64 ((rd_T44 l0_1 x22_2).f6), .int .i64 ((rd_T44 l0_1 x22_2).f7), .slice A180_8 ((rd_T44 l0_1 x22_2).f8).length c180_8, .slice A180_9 ((rd_T44 l0_1 x22_2).f9).length c180_9, .int .i64 ((rd_T44 l0_1 x22_2).f10), .int .i64 0, .int .i64 0, .slice none 0 0, .slice none 0 0, .slice none 0 0]) ?_ 11 _ rfl; (with_reducible repeat (first | refine blk_drewN ?_ _ | refine blk_drew ?_ | refine blk_alloc ?_ _)); refine blk_put (cs := #[.int .i64 ((rd_T44 l0_1 x22_2).f0), .slice A180_1 ((rd_T44 l0_1 x22_2).f1).length c180_1, .string ((rd_T44 l0_1 x22_2).f2), .int .i64 ((rd_T44 l0_1 x22_2).f3), .slice A180_4 ((rd_T44 l0_1 x22_2).f4).length c180_4, .int .i64 ((rd_T44 l0_1 x22_2).f5), .int .i64 ((rd_T44 l0_1 x22_2).f6), .int .i64 ((rd_T44 l0_1 x22_2).f7), .slice A180_8 ((rd_T44 l0_1 x22_2).f8).length c180_8, .slice A180_9 ((rd_T44 l0_1 x22_2).f9).length c180_9, .int .i64 0, .int .i64 0, .int .i64 0, .slice none 0 0, .slice none 0 0, .slice none 0 0]) ?_ 10 _ rfl; (with_reducible repeat (first | refine blk_drewN ?_ _ | refine blk_drew ?_ | refine blk_alloc ?_ _)); refine blk_put (cs := #[.int .i64 ((rd_T44 l0_1 x22_2).f0), .slice A180_1 ((rd_T44 l0_1 x22_2).f1).length c180_1, .string ((rd_T44 l0_1 x22_2).f2), .int .i64 ((rd_T44 l0_1 x22_2).f3), .slice A180_4 ((rd_T44 l0_1 x22_2).f4).length c180_4, .int .i64 ((rd_T44 l0_1 x22_2).f5), .int .i64 ((rd_T44 l0_1 x22_2).f6), .int .i64 ((rd_T44 l0_1 x22_2).f7), .slice A180_8 ((rd_T44 l0_1 x22_2).f8).length c180_8, .slice none 0 0, .int .i64 0, .int .i64 0, .int .i64 0, .slice none 0 0, .slice none 0 0, .slice none 0 0]) ?_ 9 _ rfl; (with_reducible repeat (first | refine blk_drewN ?_ _ | refine blk_drew ?_ | refine blk_alloc ?_ _)); refine blk_put (cs := #[.int .i64 ((rd_T44 l0_1 x22_2).f0), .slice A180_1 ((rd_T44 l0_1 x22_2).f1).length c180_1, .string ((rd_T44 l0_1 x22_2).f2), .int .i64 ((rd_T44 l0_1 x22_2).f3), .slice A180_4 ((rd_T44 l0_1 x22_2).f4).length c180_4, .int .i64 ((rd_T44 l0_1 x22_2).f5), .int .i64 ((rd_T44 l0_1 x22_2).f6), .int .i64 ((rd_T44 l0_1 x22_2).f7), .slice none 0 0, .slice none 0 0, .int .i64 0, .int .i64 0, .int .i64 0, .slice none 0 0, .slice none 0 0, .slice none 0 0]) ?_ 8 _ rfl; (with_reducible repeat (first | refine blk_drewN ?_ _ | refine blk_drew ?_ | refine blk_alloc ?_ _)); refine blk_put (cs := #[.int .i64 ((rd_T44 l0_1 x22_2).f0), .slice A180_1 ((rd_T44 l0_1 x22_2).f1).length c180_1, .string ((rd_T44 l0_1 x22_2).f2), .int .i64 ((rd_T44 l0_1 x22_2).f3), .slice A180_4 ((rd_T44 l0_1 x22_2).f4).length c180_4, .int .i64 ((rd_T44 l0_1 x22_2).f5), .int .i64 ((rd_T44 l0_1 x22_2).f6), .int .i64 0, .slice none 0 0, .slice none 0 0, .int .i64 0, .int .i64 0, .int .i64 0, .slice none 0 0, .slice none 0 0, .slice none 0 0]) ?_ 7 _ rfl; (with_reducible repeat (first | refine blk_drewN ?_ _ | refine blk_drew ?_ | refine blk_alloc ?_ _)); refine blk_put (cs := #[.int .i64 ((rd_T44 l0_1 x22_2).f0), .slice A180_1 ((rd_T44 l0_1 x22_2).f1).length c180_1, .string ((rd_T44 l0_1 x22_2).f2), .int .i64 ((rd_T44 l0_1 x22_2).f3), .slice A180_4 ((rd_T44 l0_1 x22_2).f4).length c180_4, .int .i64 ((rd_T44 l0_1 x22_2).f5), .int .i64 0, .int .i64 0, .slice none 0 0, .slice none 0 0, .int .i64 0, .int .i64 0, .int .i64 0, .slice none 0 0, .slice none 0 0, .slice none 0 0]) ?_ 6 _ rfl; (with_reducible repeat (first | refine blk_drewN ?_ _ | refine blk_drew ?_ | refine blk_alloc ?_ _)); refine blk_put (cs := #[.int .i64 ((rd_T44 l0_1 x22_2).f0), .slice A180_1 ((rd_T44 l0_1 x22_2).f1).length c180_1, .string ((rd_T44 l0_1 x22_2).f2), .int .i64 ((rd_T44 l0_1 x22_2).f3), .slice A180_4 ((rd_T44 l0_1 x22_2).f4).length c180_4, .int .i64 0, .int .i64 0, .int .i64 0, .slice none 0 0, .slice none 0 0, .int .i64 0, .int .i64 0, .int .i64 0, .slice none 0 0, .slice none 0 0, .slice none 0 0]) ?_ 5 _ rfl; (with_reducible repeat (first | refine blk_drewN ?_ _ | refine blk_drew ?_ | refine blk_alloc ?_ _)); refine blk_put (cs := #[.int .i64 ((rd_T44 l0_1 x22_2).f0), .slice A180_1 ((rd_T44 l0_1 x22_2).f1).length c180_1, .string ((rd_T44 l0_1 x22_2).f2), .int .i64 ((rd_T44 l0_1 x22_2).f3), .slice none 0 0, .int .i64 0, .int .i64 0, .int .i64 0, .slice none 0 0, .slice none 0 0, .int .i64 0, .int .i64 0, .int .i64 0, .slice none 0 0, .slice none 0 0, .slice none 0 0]) ?_ 4 _ rfl; (with_reducible repeat (first | refine blk_drewN ?_ _ | refine blk_drew ?_ | refine blk_alloc ?_ _)); refine blk_put (cs := #[.int .i64 ((rd_T44 l0_1 x22_2).f0), .slice A180_1 ((rd_T44 l0_1 x22_2).f1).length c180_1, .string ((rd_T44 l0_1 x22_2).f2), .int .i64 0, .slice none 0 0, .int .i64 0, .int .i64 0, .int .i64 0, .slice none 0 0, .slice none 0 0, .int .i64 0, .int .i64 0, .int .i64 0, .slice none 0 0, .slice none 0 0, .slice none 0 0]) ?_ 3 _ rfl; (with_reducible repeat (first | refine blk_drewN ?_ _ | refine blk_drew ?_ | refine blk_alloc ?_ _)); refine blk_put (cs := #[.int .i64 ((rd_T44 l0_1 x22_2).f0), .slice A180_1 ((rd_T44 l0_1 x22_2).f1).length c180_1, .string (⟨#[]⟩ : ByteArray), .int .i64 0, .slice none 0 0, .int .i64 0, .int .i64 0, .int .i64 0, .slice none 0 0, .slice none 0 0, .int .i64 0, .int .i64 0, .int .i64 0, .slice none 0 0, .slice none 0 0, .slice none 0 0]) ?_ 2 _ rfl; (with_reducible repeat (first | refine blk_drewN ?_ _ | refine blk_drew ?_ | refine blk_alloc ?_ _)); refine blk_put (cs := #[.int .i64 ((rd_T44 l0_1 x22_2).f0), .slice none 0 0, .string (⟨#[]⟩ : ByteArray), .int .i64 0, .slice none 0 0, .int .i64 0, .int .i64 0, .int .i64 0, .slice none 0 0, .slice none 0 0, .int .i64 0, .int .i64 0, .int .i64 0, .slice none 0 0, .slice none 0 0, .slice none 0 0]) ?_ 1 _ rfl; (with_reducible repeat (first | refine blk_drewN ?_ _ | refine blk_drew ?_ | refine blk_alloc ?_ _)); refine blk_put (cs := #[.int .i64 0, .slice none 0 0, .string (⟨#[]⟩ : ByteArray), .int .i64 0, .slice none 0 0, .int .i64 0, .int .i64 0, .int .i64 0, .slice none 0 0, .slice none 0 0, .int .i64 0, .int .i64 0, .int .i64 0, .slice none 0 0, .slice none 0 0, .slice none 0 0]) ?_ 0 _ rfl; (with_reducible repeat (first | refine blk_drewN ?_ _ | refine blk_drew ?_ | refine blk_alloc ?_ _)); exact BK181.out) hb); have n4_ := Aside0.mk (below_stepA hb); clear HO_7; clear BK176; clear BK177; clear BK181; clear HB; have HO_7 := n0_; have BK176 := n1_; have BK177 := n2_; have BK181 := n3_; have HB := n4_; clear n0_ n1_ n2_ n3_ n4_; (try clear hb); (try clear hb2); (try clear hk); (try clear hi); obtain ⟨hcz48_0, hcz48_1, hcz48_2, hcz48_3, hcz48_4, hcz48_5, hcz48_6, hcz48_7, hcz48_8, hcz48_9, hcz48_10, hcz48_11, hcz48_12, hcz48_13, hcz48_14, hcz48_15, hfz48_0, hfz48_1, hfz48_2, hfz48_3, hfz48_4, hfz48_5, hfz48_6, hfz48_7, hfz48_8, hfz48_9, hfz48_10, hfz48_11, hfz48_12, hfz48_13, hfz48_14, hfz48_15⟩ := blk16 BK181.out; have hnb49 := NB177_176.out; have hnc49 := NB176_177.out; obtain ⟨hcz50_0, hcz50_1, hcz50_2, hcz50_3, hcz50_4, hcz50_5, hfz50_0, hfz50_1, hfz50_2, hfz50_3, hfz50_4, hfz50_5⟩ := blk6 BK177.out; obtain ⟨Ao51, co51, eo51⟩ := Kd.R_slice HO_7.out; subst eo51) | ((with_reducible refine gate_callee (f := 26) rfl ?_); refine goesL_ (some 34) rfl rfl Try.func26 (by kernel_rfl) rfl #[.agg #[.int .i64 ((rd_T44 l0_1 x22_2).f0), .slice A180_1 ((rd_T44 l0_1 x22_2).f1).length c180_1, .string ((rd_T44 l0_1 x22_2).f2), .int .i64 ((rd_T44 l0_1 x22_2).f3), .slice A180_4 ((rd_T44 l0_1 x22_2).f4).length c180_4, .int .i64 ((rd_T44 l0_1 x22_2).f5), .int .i64 ((rd_T44 l0_1 x22_2).f6), .int .i64 ((rd_T44 l0_1 x22_2).f7), .slice A180_8 ((rd_T44 l0_1 x22_2).f8).length c180_8, .slice A180_9 ((rd_T44 l0_1 x22_2).f9).length c180_9, .int .i64 ((rd_T44 l0_1 x22_2).f10), .int .i64 ((rd_T44 l0_1 x22_2).f11), .int .i64 ((rd_T44 l0_1 x22_2).f12), .slice A180_13 ((rd_T44 l0_1 x22_2).f13).length c180_13, .slice A180_14 ((rd_T44 l0_1 x22_2).f14).length c180_14, .slice A180_15 ((rd_T44 l0_1 x22_2).f15).length c180_15], .slice Ao51 x7_2.length co51, .agg #[.int .i64 a1_0, .int .i64 a1_1, .int .i64 a1_2, .int .i64 a1_3, .int .i64 a1_4, .int .i64 a1_5]] rfl (by (try simp only [List.map_toArray, List.map_cons, List.map_nil]); first | done | rfl | (simp only [List.length_drop, List.length_take]; rfl)) ?_; (with_reducible refine (bounds_bound.calls k2 ((rd_T44 l0_1 x22_2).f0) _ _ ((rd_T44 l0_1 x22_2).f1) ((rd_T44 l0_1 x22_2).f2) ((rd_T44 l0_1 x22_2).f3) _ _ ((rd_T44 l0_1 x22_2).f4) ((rd_T44 l0_1 x22_2).f5) ((rd_T44 l0_1 x22_2).f6) ((rd_T44 l0_1 x22_2).f7) _ _ ((rd_T44 l0_1 x22_2).f8) _ _ ((rd_T44 l0_1 x22_2).f9) ((rd_T44 l0_1 x22_2).f10) ((rd_T44 l0_1 x22_2).f11) ((rd_T44 l0_1 x22_2).f12) _ _ ((rd_T44 l0_1 x22_2).f13) _ _ ((rd_T44 l0_1 x22_2).f14) _ _ ((rd_T44 l0_1 x22_2).f15) _ _ x7_2 a1_0 a1_1 a1_2 a1_3 a1_4 a1_5 t183 t184 t185 t186 _ ?side1 ?side2 ?side3 ?side4 ?side5 ?side6 ?side7 ?side8 ?side9 ?side10 ?side11 ?side12 ?side13 ?side14 ?side15 ?side16 A25.out).mono ?_); (case side1 => exact c_belowA HR180_1.out); (case side2 => exact HC180_1.out); (case side3 => exact c_belowA HR180_4.out); (case side4 => exact HC180_4.out); (case side5 => exact c_belowA HR180_8.out); (case side6 => exact HC180_8.out); (case side7 => exact c_belowA HR180_9.out); (case side8 => exact HC180_9.out); (case side9 => exact c_belowA HR180_13.out); (case side10 => exact HC180_13.out); (case side11 => exact c_belowA HR180_14.out); (case side12 => exact HC180_14.out); (case side13 => exact c_belowA HR180_15.out); (case side14 => exact HC180_15.out); (case side15 => repeat (first | exact (Kd.R_reads' HO_7.out).2.2 | (with_reducible refine Kd.C_alloc ?_ _) | (with_reducible refine Kd.C_drewN ?_ _) | (with_reducible refine Kd.C_drew ?_))); (case side16 => exact (Kd.R_reads' HO_7.out).2.1); rintro e w52 ⟨rfl, hb⟩; refine ⟨_, rfl, ?_⟩; have n0_ := Aside0.mk (Kd.R_below (by (with_reducible repeat (first | apply Kd.R_alloc | apply Kd.R_drewN | apply Kd.R_drew)); exact HO_7.out) hb); have n1_ := Aside0.mk (blk_keepA BK176.out hb); have n2_ := Aside0.mk (blk_keepA BK177.out hb); have n3_ := Aside0.mk (blk_keepA BK181.out hb); have n4_ := Aside0.mk (below_stepA hb); clear HO_7; clear BK176; clear BK177; clear BK181; clear HB; have HO_7 := n0_; have BK176 := n1_; have BK177 := n2_; have BK181 := n3_; have HB := n4_; clear n0_ n1_ n2_ n3_ n4_; (try clear hb); (try clear hb2); (try clear hk); (try clear hi)) | ((with_reducible refine gate_dst (N := 10) rfl ?_); refine box_event ?hg (N := 10) ?hd (cs := #[.int .i64 0, .int .i64 0, .int .i64 0, .int .i64 0]) (t := 37) ?hr ?_; (case hd => rfl); (case hg => rfl); (case hr => first | (go_simp; done) | (go_simp; rfl)); intro gb187 hg w53 hbox hb; have n0_ := Aside0.mk (Kd.R_below (Kd.R_elderB (by (with_reducible repeat (first | apply Kd.R_alloc | apply Kd.R_drewN | apply Kd.R_drew)); exact HO_7.out) gb187 (Nat.le_of_eq hg.symm)) hb); have n1_ := Aside0.mk (blk_keepA BK176.out hb); have n2_ := Aside0.mk (blk_keepA BK177.out hb); have n3_ := Aside0.mk (blk_keepA BK181.out hb); have n4_ := Aside0.mk (below_stepA hb); have n5_ := Aside0.mk (hbox); have n6_ := Aside0.mk ((by rw [hg]; exact below_sizeA : w.heap.size ≤ gb187)); have n7_ := Aside0.mk ((by rw [hg]; exact below_sizeA : w.heap.size ≤ gb187)); have n8_ := Aside0.mk ((by rw [hg]; exact Nat.ne_of_lt (blk_ltKA BK176.out) : gb176 ≠ gb187)); have n9_ := Aside0.mk ((by rw [hg]; exact Nat.ne_of_gt (blk_ltKA BK176.out) : gb187 ≠ gb176)); have n10_ := Aside0.mk ((by rw [hg]; exact Nat.ne_of_lt (blk_ltKA BK177.out) : gb177 ≠ gb187)); have n11_ := Aside0.mk ((by rw [hg]; exact Nat.ne_of_gt (blk_ltKA BK177.out) : gb187 ≠ gb177)); have n12_ := Aside0.mk ((by rw [hg]; exact Nat.ne_of_lt (blk_ltKA BK181.out) : gb181 ≠ gb187)); have n13_ := Aside0.mk ((by rw [hg]; exact Nat.ne_of_gt (blk_ltKA BK181.out) : gb187 ≠ gb181)); clear HO_7; clear BK176; clear BK177; clear BK181; clear HB; have HO_7 := n0_; have BK176 := n1_; have BK177 := n2_; have BK181 := n3_; have HB := n4_; have BK187 := n5_; have GW187 := n6_; have GE187 := n7_; have NB176_187 := n8_; have NB187_176 := n9_; have NB177_187 := n10_; have NB187_177 := n11_; have NB181_187 := n12_; have NB187_181 := n13_; clear n0_ n1_ n2_ n3_ n4_ n5_ n6_ n7_ n8_ n9_ n10_ n11_ n12_ n13_; clear hb hbox hg; have hnb54 := NB187_176.out; have hnc54 := NB176_187.out; have hnb55 := NB187_177.out; have hnc55 := NB177_187.out; have hnb56 := NB187_181.out; have hnc56 := NB181_187.out; obtain ⟨hcz57_0, hcz57_1, hcz57_2, hcz57_3, hfz57_0, hfz57_1, hfz57_2, hfz57_3⟩ := blk4 BK187.out))
            go_ret3
            exact ⟨_, by first | rfl | (simp [errW_none, errW_some] <;> rfl) | (simp [*, errW_none, errW_some] <;> rfl), by first | exact Kd.R_nil _ _ _ _ _ | exact Kd.N_nil _ _ _ _ _ | exact Kd.V_nil _ _ _ _ _ | exact Kd.Q_nil _ _ _ _ _ | exact Kd.S_nil _ _ _ _ _, by repeat (first | (with_reducible first | exact HB.out | apply below_alloc | apply pw_below_drewN | apply below_drew1 | refine below_set ?_ GE176.out | refine below_set ?_ GE177.out | refine below_set ?_ GE181.out | refine below_set ?_ GE187.out) | exact HB.out)⟩
           ·
            rw [if_neg c42] at H
            have c42b0 : decide (1099511627776 ≤ t186) = false := decide_eq_false c42
            clear c42
            by_cases c58 : x7_2.length < 4398046511104
            ·
             rw [if_pos c58] at H
             have LMc58 := Aside0.mk c58
             clear c58
             obtain ⟨y188, hy188⟩ : ∃ y_ : List (S37), y_ = (x7_2 ++ [(⟨t183, t184, t185, t186⟩ : S37)]) := ⟨_, rfl⟩
             replace H : (bounds_Analyze.l0 k2 y188 l0_1 (l0_1.length : Int) (wrap64 (x22_2 + 1)) a1_0 a1_1 a1_2 a1_3 a1_4 a1_5) = some (r1, r2, r3) := by first | (rw [hy188]; with_reducible exact H) | (have H2_ := (Option.bind_some _ _).symm.trans H; rw [hy188]; with_reducible exact H2_) | (have H2_ := (Option.bind_some _ _).symm.trans H; with_reducible exact H2_) | with_reducible exact H | (rw [hy188]; exact H) | exact H
             have Ny188 := Aside0.mk hy188
             clear hy188
             have H' := Aside0.mk H
             clear H
             have p180 : 0 ≤ (x22_2 : Int) := of_decide_eq_true (by first | (with_reducible assumption) | assumption)
             have q180 : x22_2 < (l0_1.length : Int) := of_decide_eq_true (by first | (with_reducible assumption) | assumption)
             obtain ⟨ad180, A180_1, c180_1, A180_4, c180_4, A180_8, c180_8, A180_9, c180_9, A180_13, c180_13, A180_14, c180_14, A180_15, c180_15, e180, hx180_0, hx180_1, hx180_2, hx180_3, hx180_4, hx180_5, hx180_6, hx180_7, hx180_8, hx180_9, hx180_10, hx180_11, hx180_12, hx180_13, hx180_14, hx180_15, hl180_1, hi180_1, hl180_4, hi180_4, hl180_8, hi180_8, hl180_9, hi180_9, hl180_13, hi180_13, hl180_14, hi180_14, hl180_15, hi180_15⟩ := at_T44 HR0_1.out x22_2 p180 q180
             cases e180
             replace hx180_0 := (HB.out.cell (World.block_lt_of_cell? w _ hx180_0)).trans hx180_0
             replace hx180_1 := (HB.out.cell (World.block_lt_of_cell? w _ hx180_1)).trans hx180_1
             replace hx180_2 := (HB.out.cell (World.block_lt_of_cell? w _ hx180_2)).trans hx180_2
             replace hx180_3 := (HB.out.cell (World.block_lt_of_cell? w _ hx180_3)).trans hx180_3
             replace hx180_4 := (HB.out.cell (World.block_lt_of_cell? w _ hx180_4)).trans hx180_4
             replace hx180_5 := (HB.out.cell (World.block_lt_of_cell? w _ hx180_5)).trans hx180_5
             replace hx180_6 := (HB.out.cell (World.block_lt_of_cell? w _ hx180_6)).trans hx180_6
             replace hx180_7 := (HB.out.cell (World.block_lt_of_cell? w _ hx180_7)).trans hx180_7
             replace hx180_8 := (HB.out.cell (World.block_lt_of_cell? w _ hx180_8)).trans hx180_8
             replace hx180_9 := (HB.out.cell (World.block_lt_of_cell? w _ hx180_9)).trans hx180_9
             replace hx180_10 := (HB.out.cell (World.block_lt_of_cell? w _ hx180_10)).trans hx180_10
             replace hx180_11 := (HB.out.cell (World.block_lt_of_cell? w _ hx180_11)).trans hx180_11
             replace hx180_12 := (HB.out.cell (World.block_lt_of_cell? w _ hx180_12)).trans hx180_12
             replace hx180_13 := (HB.out.cell (World.block_lt_of_cell? w _ hx180_13)).trans hx180_13
             replace hx180_14 := (HB.out.cell (World.block_lt_of_cell? w _ hx180_14)).trans hx180_14
             replace hx180_15 := (HB.out.cell (World.block_lt_of_cell? w _ hx180_15)).trans hx180_15
             have HR180_1 := Aside0.mk hi180_1
             have HC180_1 := Aside0.mk hl180_1
             clear hi180_1 hl180_1
             have HR180_4 := Aside0.mk hi180_4
             have HC180_4 := Aside0.mk hl180_4
             clear hi180_4 hl180_4
             have HR180_8 := Aside0.mk hi180_8
             have HC180_8 := Aside0.mk hl180_8
             clear hi180_8 hl180_8
             have HR180_9 := Aside0.mk hi180_9
             have HC180_9 := Aside0.mk hl180_9
             clear hi180_9 hl180_9
             have HR180_13 := Aside0.mk hi180_13
             have HC180_13 := Aside0.mk hl180_13
             clear hi180_13 hl180_13
             have HR180_14 := Aside0.mk hi180_14
             have HC180_14 := Aside0.mk hl180_14
             clear hi180_14 hl180_14
             have HR180_15 := Aside0.mk hi180_15
             have HC180_15 := Aside0.mk hl180_15
             clear hi180_15 hl180_15
             replace p180 := eq_true p180
             replace q180 := eq_true q180
             go_wp2_with (first | ((with_reducible refine gate_dst (N := 9) rfl ?_); refine box_event ?hg (N := 9) ?hd (cs := #[.int .i64 0, .slice none 0 0, .string (⟨#[]⟩ : ByteArray), .int .i64 0, .slice none 0 0, .int .i64 0, .int .i64 0, .int .i64 0, .slice none 0 0, .slice none 0 0, .int .i64 0, .int .i64 0, .int .i64 0, .slice none 0 0, .slice none 0 0, .slice none 0 0]) (t := 44) ?hr ?_; (case hd => rfl); (case hg => rfl); (case hr => first | (go_simp; done) | (go_simp; rfl)); intro gb181 hg w59 hbox hb; have n0_ := Aside0.mk (Kd.R_below (by (with_reducible repeat (first | apply Kd.R_alloc | apply Kd.R_drewN | apply Kd.R_drew)); exact HO_7.out) hb); have n1_ := Aside0.mk (blk_keepA BK176.out hb); have n2_ := Aside0.mk (blk_keepA BK177.out hb); have n3_ := Aside0.mk (below_stepA hb); have n4_ := Aside0.mk (hbox); have n5_ := Aside0.mk ((by rw [hg]; exact below_sizeA : w.heap.size ≤ gb181)); have n6_ := Aside0.mk ((by rw [hg]; exact below_sizeA : w.heap.size ≤ gb181)); have n7_ := Aside0.mk ((by rw [hg]; exact Nat.ne_of_lt (blk_ltKA BK176.out) : gb176 ≠ gb181)); have n8_ := Aside0.mk ((by rw [hg]; exact Nat.ne_of_gt (blk_ltKA BK176.out) : gb181 ≠ gb176)); have n9_ := Aside0.mk ((by rw [hg]; exact Nat.ne_of_lt (blk_ltKA BK177.out) : gb177 ≠ gb181)); have n10_ := Aside0.mk ((by rw [hg]; exact Nat.ne_of_gt (blk_ltKA BK177.out) : gb181 ≠ gb177)); clear HO_7; clear BK176; clear BK177; clear HB; have HO_7 := n0_; have BK176 := n1_; have BK177 := n2_; have HB := n3_; have BK181 := n4_; have GW181 := n5_; have GE181 := n6_; have NB176_181 := n7_; have NB181_176 := n8_; have NB177_181 := n9_; have NB181_177 := n10_; clear n0_ n1_ n2_ n3_ n4_ n5_ n6_ n7_ n8_ n9_ n10_; clear hb hbox hg; have hnb60 := NB181_176.out; have hnc60 := NB176_181.out; have hnb61 := NB181_177.out; have hnc61 := NB177_181.out; obtain ⟨hcz62_0, hcz62_1, hcz62_2, hcz62_3, hcz62_4, hcz62_5, hcz62_6, hcz62_7, hcz62_8, hcz62_9, hcz62_10, hcz62_11, hcz62_12, hcz62_13, hcz62_14, hcz62_15, hfz62_0, hfz62_1, hfz62_2, hfz62_3, hfz62_4, hfz62_5, hfz62_6, hfz62_7, hfz62_8, hfz62_9, hfz62_10, hfz62_11, hfz62_12, hfz62_13, hfz62_14, hfz62_15⟩ := blk16 BK181.out) | ((with_reducible refine gate_callee (f := 12) rfl ?_); refine goesL_ (some 28) rfl rfl Try.func12 (by kernel_rfl) rfl #[.agg #[.int .i64 ((rd_T44 l0_1 x22_2).f0), .slice A180_1 ((rd_T44 l0_1 x22_2).f1).length c180_1, .string ((rd_T44 l0_1 x22_2).f2), .int .i64 ((rd_T44 l0_1 x22_2).f3), .slice A180_4 ((rd_T44 l0_1 x22_2).f4).length c180_4, .int .i64 ((rd_T44 l0_1 x22_2).f5), .int .i64 ((rd_T44 l0_1 x22_2).f6), .int .i64 ((rd_T44 l0_1 x22_2).f7), .slice A180_8 ((rd_T44 l0_1 x22_2).f8).length c180_8, .slice A180_9 ((rd_T44 l0_1 x22_2).f9).length c180_9, .int .i64 ((rd_T44 l0_1 x22_2).f10), .int .i64 ((rd_T44 l0_1 x22_2).f11), .int .i64 ((rd_T44 l0_1 x22_2).f12), .slice A180_13 ((rd_T44 l0_1 x22_2).f13).length c180_13, .slice A180_14 ((rd_T44 l0_1 x22_2).f14).length c180_14, .slice A180_15 ((rd_T44 l0_1 x22_2).f15).length c180_15]] rfl (by (try simp only [List.map_toArray, List.map_cons, List.map_nil]); first | done | rfl | (simp only [List.length_drop, List.length_take]; rfl)) ?_; (with_reducible refine (bounds_Bounded.calls ((rd_T44 l0_1 x22_2).f0) _ _ ((rd_T44 l0_1 x22_2).f1) ((rd_T44 l0_1 x22_2).f2) ((rd_T44 l0_1 x22_2).f3) _ _ ((rd_T44 l0_1 x22_2).f4) ((rd_T44 l0_1 x22_2).f5) ((rd_T44 l0_1 x22_2).f6) ((rd_T44 l0_1 x22_2).f7) _ _ ((rd_T44 l0_1 x22_2).f8) _ _ ((rd_T44 l0_1 x22_2).f9) ((rd_T44 l0_1 x22_2).f10) ((rd_T44 l0_1 x22_2).f11) ((rd_T44 l0_1 x22_2).f12) _ _ ((rd_T44 l0_1 x22_2).f13) _ _ ((rd_T44 l0_1 x22_2).f14) _ _ ((rd_T44 l0_1 x22_2).f15) true _ ?side1 ?side2 ?side3 ?side4 ?side5 ?side6 ?side7 ?side8 ?side9 ?side10 ?side11 ?side12 ?side13 ?side14 A23.out).mono ?_); (case side1 => exact Kd.C_below HR180_1.out (by repeat (first | (with_reducible first | exact HB.out | apply below_alloc | apply pw_below_drewN | apply below_drew1 | refine below_set ?_ GE176.out | refine below_set ?_ GE177.out | refine below_set ?_ GE181.out) | exact HB.out))); (case side2 => exact HC180_1.out); (case side3 => exact Kd.C_below HR180_4.out (by repeat (first | (with_reducible first | exact HB.out | apply below_alloc | apply pw_below_drewN | apply below_drew1 | refine below_set ?_ GE176.out | refine below_set ?_ GE177.out | refine below_set ?_ GE181.out) | exact HB.out))); (case side4 => exact HC180_4.out); (case side5 => exact Kd.C_below HR180_8.out (by repeat (first | (with_reducible first | exact HB.out | apply below_alloc | apply pw_below_drewN | apply below_drew1 | refine below_set ?_ GE176.out | refine below_set ?_ GE177.out | refine below_set ?_ GE181.out) | exact HB.out))); (case side6 => exact HC180_8.out); (case side7 => exact Kd.C_below HR180_9.out (by repeat (first | (with_reducible first | exact HB.out | apply below_alloc | apply pw_below_drewN | apply below_drew1 | refine below_set ?_ GE176.out | refine below_set ?_ GE177.out | refine below_set ?_ GE181.out) | exact HB.out))); (case side8 => exact HC180_9.out); (case side9 => exact Kd.C_below HR180_13.out (by repeat (first | (with_reducible first | exact HB.out | apply below_alloc | apply pw_below_drewN | apply below_drew1 | refine below_set ?_ GE176.out | refine below_set ?_ GE177.out | refine below_set ?_ GE181.out) | exact HB.out))); (case side10 => exact HC180_13.out); (case side11 => exact Kd.C_below HR180_14.out (by repeat (first | (with_reducible first | exact HB.out | apply below_alloc | apply pw_below_drewN | apply below_drew1 | refine below_set ?_ GE176.out | refine below_set ?_ GE177.out | refine below_set ?_ GE181.out) | exact HB.out))); (case side12 => exact HC180_14.out); (case side13 => exact Kd.C_below HR180_15.out (by repeat (first | (with_reducible first | exact HB.out | apply below_alloc | apply pw_below_drewN | apply below_drew1 | refine below_set ?_ GE176.out | refine below_set ?_ GE177.out | refine below_set ?_ GE181.out) | exact HB.out))); (case side14 => exact HC180_15.out); rintro e w63 ⟨rfl, hb⟩; refine ⟨_, rfl, ?_⟩; have n0_ := Aside0.mk (Kd.R_below (by (with_reducible repeat (first | apply Kd.R_alloc | apply Kd.R_drewN | apply Kd.R_drew)); exact (Kd.R_mono (Kd.R_far (p := ⟨gb181, 15, none⟩) (Kd.R_far (p := ⟨gb181, 14, none⟩) (Kd.R_far (p := ⟨gb181, 13, none⟩) (Kd.R_far (p := ⟨gb181, 12, none⟩) (Kd.R_far (p := ⟨gb181, 11, none⟩) (Kd.R_far (p := ⟨gb181, 10, none⟩) (Kd.R_far (p := ⟨gb181, 9, none⟩) (Kd.R_far (p := ⟨gb181, 8, none⟩) (Kd.R_far (p := ⟨gb181, 7, none⟩) (Kd.R_far (p := ⟨gb181, 6, none⟩) (Kd.R_far (p := ⟨gb181, 5, none⟩) (Kd.R_far (p := ⟨gb181, 4, none⟩) (Kd.R_far (p := ⟨gb181, 3, none⟩) (Kd.R_far (p := ⟨gb181, 2, none⟩) (Kd.R_far (p := ⟨gb181, 1, none⟩) (Kd.R_far (p := ⟨gb181, 0, none⟩) (Kd.R_types HO_7.out BK181.out (by decide)) (fun _ hk => hk.2) (.int .i64 ((rd_T44 l0_1 x22_2).f0))) (fun _ hk => hk.2) (.slice A180_1 ((rd_T44 l0_1 x22_2).f1).length c180_1)) (fun _ hk => hk.2) (.string ((rd_T44 l0_1 x22_2).f2))) (fun _ hk => hk.2) (.int .i64 ((rd_T44 l0_1 x22_2).f3))) (fun _ hk => hk.2) (.slice A180_4 ((rd_T44 l0_1 x22_2).f4).length c180_4)) (fun _ hk => hk.2) (.int .i64 ((rd_T44 l0_1 x22_2).f5))) (fun _ hk => hk.2) (.int .i64 ((rd_T44 l0_1 x22_2).f6))) (fun _ hk => hk.2) (.int .i64 ((rd_T44 l0_1 x22_2).f7))) (fun _ hk => hk.2) (.slice A180_8 ((rd_T44 l0_1 x22_2).f8).length c180_8)) (fun _ hk => hk.2) (.slice A180_9 ((rd_T44 l0_1 x22_2).f9).length c180_9)) (fun _ hk => hk.2) (.int .i64 ((rd_T44 l0_1 x22_2).f10))) (fun _ hk => hk.2) (.int .i64 ((rd_T44 l0_1 x22_2).f11))) (fun _ hk => hk.2) (.int .i64 ((rd_T44 l0_1 x22_2).f12))) (fun _ hk => hk.2) (.slice A180_13 ((rd_T44 l0_1 x22_2).f13).length c180_13)) (fun _ hk => hk.2) (.slice A180_14 ((rd_T44 l0_1 x22_2).f14).length c180_14)) (fun _ hk => hk.2) (.slice A180_15 ((rd_T44 l0_1 x22_2).f15).length c180_15)) (fun _ h_ => h_.1))) hb); have n1_ := Aside0.mk (blk_keep BK176.out (fun h_ => by (with_reducible repeat (first | refine blk_drewN ?_ _ | refine blk_drew ?_ | refine blk_alloc ?_ _)); refine blk_far ?_ NB176_181.out _; (with_reducible repeat (first | refine blk_drewN ?_ _ | refine blk_drew ?_ | refine blk_alloc ?_ _)); refine blk_far ?_ NB176_181.out _; (with_reducible repeat (first | refine blk_drewN ?_ _ | refine blk_drew ?_ | refine blk_alloc ?_ _)); refine blk_far ?_ NB176_181.out _; (with_reducible repeat (first | refine blk_drewN ?_ _ | refine blk_drew ?_ | refine blk_alloc ?_ _)); refine blk_far ?_ NB176_181.out _; (with_reducible repeat (first | refine blk_drewN ?_ _ | refine blk_drew ?_ | refine blk_alloc ?_ _)); refine blk_far ?_ NB176_181.out _; (with_reducible repeat (first | refine blk_drewN ?_ _ | refine blk_drew ?_ | refine blk_alloc ?_ _)); refine blk_far ?_ NB176_181.out _; (with_reducible repeat (first | refine blk_drewN ?_ _ | refine blk_drew ?_ | refine blk_alloc ?_ _)); refine blk_far ?_ NB176_181.out _; (with_reducible repeat (first | refine blk_drewN ?_ _ | refine blk_drew ?_ | refine blk_alloc ?_ _)); refine blk_far ?_ NB176_181.out _; (with_reducible repeat (first | refine blk_drewN ?_ _ | refine blk_drew ?_ | refine blk_alloc ?_ _)); refine blk_far ?_ NB176_181.out _; (with_reducible repeat (first | refine blk_drewN ?_ _ | refine blk_drew ?_ | refine blk_alloc ?_ _)); refine blk_far ?_ NB176_181.out _; (with_reducible repeat (first | refine blk_drewN ?_ _ | refine blk_drew ?_ | refine blk_alloc ?_ _)); refine blk_far ?_ NB176_181.out _; (with_reducible repeat (first | refine blk_drewN ?_ _ | refine blk_drew ?_ | refine blk_alloc ?_ _)); refine blk_far ?_ NB176_181.out _; (with_reducible repeat (first | refine blk_drewN ?_ _ | refine blk_drew ?_ | refine blk_alloc ?_ _)); refine blk_far ?_ NB176_181.out _; (with_reducible repeat (first | refine blk_drewN ?_ _ | refine blk_drew ?_ | refine blk_alloc ?_ _)); refine blk_far ?_ NB176_181.out _; (with_reducible repeat (first | refine blk_drewN ?_ _ | refine blk_drew ?_ | refine blk_alloc ?_ _)); refine blk_far ?_ NB176_181.out _; (with_reducible repeat (first | refine blk_drewN ?_ _ | refine blk_drew ?_ | refine blk_alloc ?_ _)); refine blk_far ?_ NB176_181.out _; (with_reducible repeat (first | refine blk_drewN ?_ _ | refine blk_drew ?_ | refine blk_alloc ?_ _)); exact h_) hb); have n2_ := Aside0.mk (blk_keep BK177.out (fun h_ => by (with_reducible repeat (first | refine blk_drewN ?_ _ | refine blk_drew ?_ | refine blk_alloc ?_ _)); refine blk_far ?_ NB177_181.out _; (with_reducible repeat (first | refine blk_drewN ?_ _ | refine blk_drew ?_ | refine blk_alloc ?_ _)); refine blk_far ?_ NB177_181.out _; (with_reducible repeat (first | refine blk_drewN ?_ _ | refine blk_drew ?_ | refine blk_alloc ?_ _)); refine blk_far ?_ NB177_181.out _; (with_reducible repeat (first | refine blk_drewN ?_ _ | refine blk_drew ?_ | refine blk_alloc ?_ _)); refine blk_far ?_ NB177_181.out _; (with_reducible repeat (first | refine blk_drewN ?_ _ | refine blk_drew ?_ | refine blk_alloc ?_ _)); refine blk_far ?_ NB177_181.out _; (with_reducible repeat (first | refine blk_drewN ?_ _ | refine blk_drew ?_ | refine blk_alloc ?_ _)); refine blk_far ?_ NB177_181.out _; (with_reducible repeat (first | refine blk_drewN ?_ _ | refine blk_drew ?_ | refine blk_alloc ?_ _)); refine blk_far ?_ NB177_181.out _; (with_reducible repeat (first | refine blk_drewN ?_ _ | refine blk_drew ?_ | refine blk_alloc ?_ _)); refine blk_far ?_ NB177_181.out _; (with_reducible repeat (first | refine blk_drewN ?_ _ | refine blk_drew ?_ | refine blk_alloc ?_ _)); refine blk_far ?_ NB177_181.out _; (with_reducible repeat (first | refine blk_drewN ?_ _ | refine blk_drew ?_ | refine blk_alloc ?_ _)); refine blk_far ?_ NB177_181.out _; (with_reducible repeat (first | refine blk_drewN ?_ _ | refine blk_drew ?_ | refine blk_alloc ?_ _)); refine blk_far ?_ NB177_181.out _; (with_reducible repeat (first | refine blk_drewN ?_ _ | refine blk_drew ?_ | refine blk_alloc ?_ _)); refine blk_far ?_ NB177_181.out _; (with_reducible repeat (first | refine blk_drewN ?_ _ | refine blk_drew ?_ | refine blk_alloc ?_ _)); refine blk_far ?_ NB177_181.out _; (with_reducible repeat (first | refine blk_drewN ?_ _ | refine blk_drew ?_ | refine blk_alloc ?_ _)); refine blk_far ?_ NB177_181.out _; (with_reducible repeat (first | refine blk_drewN ?_ _ | refine blk_drew ?_ | refine blk_alloc ?_ _)); refine blk_far ?_ NB177_181.out _; (with_reducible repeat (first | refine blk_drewN ?_ _ | refine blk_drew ?_ | refine blk_alloc ?_ _)); refine blk_far ?_ NB177_181.out _; (with_reducible repeat (first | refine blk_drewN ?_ _ | refine blk_drew ?_ | refine blk_alloc ?_ _)); exact h_) hb); have n3_ := Aside0.mk (blk_below (g := gb181) (o := .cells #[.int .i64 ((rd_T44 l0_1 x22_2).f0), .slice A180_1 ((rd_T44 l0_1 x22_2).f1).length c180_1, .string ((rd_T44 l0_1 x22_2).f2), .int .i64 ((rd_T44 l0_1 x22_2).f3), .slice A180_4 ((rd_T44 l0_1 x22_2).f4).length c180_4, .int .i64 ((rd_T44 l0_1 x22_2).f5), .int .i64 ((rd_T44 l0_1 x22_2).f6), .int .i64 ((rd_T44 l0_1 x22_2).f7), .slice A180_8 ((rd_T44 l0_1 x22_2).f8).length c180_8, .slice A180_9 ((rd_T44 l0_1 x22_2).f9).length c180_9, .int .i64 ((rd_T44 l0_1 x22_2).f10), .int .i64 ((rd_T44 l0_1 x22_2).f11), .int .i64 ((rd_T44 l0_1 x22_2).f12), .slice A180_13 ((rd_T44 l0_1 x22_2).f13).length c180_13, .slice A180_14 ((rd_T44 l0_1 x22_2).f14).length c180_14, .slice A180_15 ((rd_T44 l0_1 x22_2).f15).length c180_15] 44 (0, 0)) (by (with_reducible repeat (first | refine blk_drewN ?_ _ | refine blk_drew ?_ | refine blk_alloc ?_ _)); refine blk_put (cs := #[.int .i64 ((rd_T44 l0_1 x22_2).f0), .slice A180_1 ((rd_T44 l0_1 x22_2).f1).length c180_1, .string ((rd_T44 l0_1 x22_2).f2), .int .i64 ((rd_T44 l0_1 x22_2).f3), .slice A180_4 ((rd_T44 l0_1 x22_2).f4).length c180_4, .int .i64 ((rd_T44 l0_1 x22_2).f5), .int .i64 ((rd_T44 l0_1 x22_2).f6), .int .i64 ((rd_T44 l0_1 x22_2).f7), .slice A180_8 ((rd_T44 l0_1 x22_2).f8).length c180_8, .slice A180_9 ((rd_T44 l0_1 x22_2).f9).length c180_9, .int .i64 ((rd_T44 l0_1 x22_2).f10), .int .i64 ((rd_T44 l0_1 x22_2).f11), .int .i64 ((rd_T44 l0_1 x22_2).f12), .slice A180_13 ((rd_T44 l0_1 x22_2).f13).length c180_13, .slice A180_14 ((rd_T44 l0_1 x22_2).f14).length c180_14, .slice none 0 0]) ?_ 15 _ rfl; (with_reducible repeat (first | refine blk_drewN ?_ _ | refine blk_drew ?_ | refine blk_alloc ?_ _)); refine blk_put (cs := #[.int .i64 ((rd_T44 l0_1 x22_2).f0), .slice A180_1 ((rd_T44 l0_1 x22_2).f1).length c180_1, .string ((rd_T44 l0_1 x22_2).f2), .int .i64 ((rd_T44 l0_1 x22_2).f3), .slice A180_4 ((rd_T44 l0_1 x22_2).f4).length c180_4, .int .i64 ((rd_T44 l0_1 x22_2).f5), .int .i64 ((rd_T44 l0_1 x22_2).f6), .int .i64 ((rd_T44 l0_1 x22_2).f7), .slice A180_8 ((rd_T44 l0_1 x22_2).f8).length c180_8, .slice A180_9 ((rd_T44 l0_1 x22_2).f9).length c180_9, .int .i64 ((rd_T44 l0_1 x22_2).f10), .int .i64 ((rd_T44 l0_1 x22_2).f11), .int .i64 ((rd_T44 l0_1 x22_2).f12), .slice A180_13 ((rd_T44 l0_1 x22_2).f13).length c180_13, .slice none 0 0, .slice none 0 0]) ?_ 14 _ rfl; (with_reducible repeat (first | refine blk_drewN ?_ _ | refine blk_drew ?_ | refine blk_alloc ?_ _)); refine blk_put (cs := #[.int .i64 ((rd_T44 l0_1 x22_2).f0), .slice A180_1 ((rd_T44 l0_1 x22_2).f1).length c180_1, .string ((rd_T44 l0_1 x22_2).f2), .int .i64 ((rd_T44 l0_1 x22_2).f3), .slice A180_4 ((rd_T44 l0_1 x22_2).f4).length c180_4, .int .i64 ((rd_T44 l0_1 x22_2).f5), .int .i64 ((rd_T44 l0_1 x22_2).f6), .int .i64 ((rd_T44 l0_1 x22_2).f7), .slice A180_8 ((rd_T44 l0_1 x22_2).f8).length c180_8, .slice A180_9 ((rd_T44 l0_1 x22_2).f9).length c180_9, .int .i64 ((rd_T44 l0_1 x22_2).f10), .int .i64 ((rd_T44 l0_1 x22_2).f11), .int .i64 ((rd_T44 l0_1 x22_2).f12), .slice none 0 0, .slice none 0 0, .slice none 0 0]) ?_ 13 _ rfl; (with_reducible repeat (first | refine blk_drewN ?_ _ | refine blk_drew ?_ | refine blk_alloc ?_ _)); refine blk_put (cs := #[.int .i64 ((rd_T44 l0_1 x22_2).f0), .slice A180_1 ((rd_T44 l0_1 x22_2).f1).length c180_1, .string ((rd_T44 l0_1 x22_2).f2), .int .i64 ((rd_T44 l0_1 x22_2).f3), .slice A180_4 ((rd_T44 l0_1 x22_2).f4).length c180_4, .int .i64 ((rd_T44 l0_1 x22_2).f5), .int .i64 ((rd_T44 l0_1 x22_2).f6), .int .i64 ((rd_T44 l0_1 x22_2).f7), .slice A180_8 ((rd_T44 l0_1 x22_2).f8).length c180_8, .slice A180_9 ((rd_T44 l0_1 x22_2).f9).length c180_9, .int .i64 ((rd_T44 l0_1 x22_2).f10), .int .i64 ((rd_T44 l0_1 x22_2).f11), .int .i64 0, .slice none 0 0, .slice none 0 0, .slice none 0 0]) ?_ 12 _ rfl; (with_reducible repeat (first | refine blk_drewN ?_ _ | refine blk_drew ?_ | refine blk_alloc ?_ _)); refine blk_put (cs := #[.int .i64 ((rd_T44 l0_1 x22_2).f0), .slice A180_1 ((rd_T44 l0_1 x22_2).f1).length c180_1, .string ((rd_T44 l0_1 x22_2).f2), .int .i64 ((rd_T44 l0_1 x22_2).f3), .slice A180_4 ((rd_T44 l0_1 x22_2).f4).length c180_4, .int .i64 ((rd_T44 l0_1 x22_2).f5), .int .i64 ((rd_T44 l0_1 x22_2).f6), .int .i64 ((rd_T44 l0_1 x22_2).f7), .slice A180_8 ((rd_T44 l0_1 x22_2).f8).length c180_8, .slice A180_9 ((rd_T44 l0_1 x22_2).f9).length c180_9, .int .i64 ((rd_T44 l0_1 x22_2).f10), .int .i64 0, .int .i64 0, .slice none 0 0, .slice none 0 0, .slice none 0 0]) ?_ 11 _ rfl; (with_reducible repeat (first | refine blk_drewN ?_ _ | refine blk_drew ?_ | refine blk_alloc ?_ _)); refine blk_put (cs := #[.int .i64 ((rd_T44 l0_1 x22_2).f0), .slice A180_1 ((rd_T44 l0_1 x22_2).f1).length c180_1, .string ((rd_T44 l0_1 x22_2).f2), .int .i64 ((rd_T44 l0_1 x22_2).f3), .slice A180_4 ((rd_T44 l0_1 x22_2).f4).length c180_4, .int .i64 ((rd_T44 l0_1 x22_2).f5), .int .i64 ((rd_T44 l0_1 x22_2).f6), .int .i64 ((rd_T44 l0_1 x22_2).f7), .slice A180_8 ((rd_T44 l0_1 x22_2).f8).length c180_8, .slice A180_9 ((rd_T44 l0_1 x22_2).f9).length c180_9, .int .i64 0, .int .i64 0, .int .i64 0, .slice none 0 0, .slice none 0 0, .slice none 0 0]) ?_ 10 _ rfl; (with_reducible repeat (first | refine blk_drewN ?_ _ | refine blk_drew ?_ | refine blk_alloc ?_ _)); refine blk_put (cs := #[.int .i64 ((rd_T44 l0_1 x22_2).f0), .slice A180_1 ((rd_T44 l0_1 x22_2).f1).length c180_1, .string ((rd_T44 l0_1 x22_2).f2), .int .i64 ((rd_T44 l0_1 x22_2).f3), .slice A180_4 ((rd_T44 l0_1 x22_2).f4).length c180_4, .int .i64 ((rd_T44 l0_1 x22_2).f5), .int .i64 ((rd_T44 l0_1 x22_2).f6), .int .i64 ((rd_T44 l0_1 x22_2).f7), .slice A180_8 ((rd_T44 l0_1 x22_2).f8).length c180_8, .slice none 0 0, .int .i64 0, .int .i64 0, .int .i64 0, .slice none 0 0, .slice none 0 0, .slice none 0 0]) ?_ 9 _ rfl; (with_reducible repeat (first | refine blk_drewN ?_ _ | refine blk_drew ?_ | refine blk_alloc ?_ _)); refine blk_put (cs := #[.int .i64 ((rd_T44 l0_1 x22_2).f0), .slice A180_1 ((rd_T44 l0_1 x22_2).f1).length c180_1, .string ((rd_T44 l0_1 x22_2).f2), .int .i64 ((rd_T44 l0_1 x22_2).f3), .slice A180_4 ((rd_T44 l0_1 x22_2).f4).length c180_4, .int .i64 ((rd_T44 l0_1 x22_2).f5), .int .i64 ((rd_T44 l0_1 x22_2).f6), .int .i64 ((rd_T44 l0_1 x22_2).f7), .slice none 0 0, .slice none 0 0, .int .i64 0, .int .i64 0, .int .i64 0, .slice none 0 0, .slice none 0 0, .slice none 0 0]) ?_ 8 _ rfl; (with_reducible repeat (first | refine blk_drewN ?_ _ | refine blk_drew ?_ | refine blk_alloc ?_ _)); refine blk_put (cs := #[.int .i64 ((rd_T44 l0_1 x22_2).f0), .slice A180_1 ((rd_T44 l0_1 x22_2).f1).length c180_1, .string ((rd_T44 l0_1 x22_2).f2), .int .i64 ((rd_T44 l0_1 x22_2).f3), .slice A180_4 ((rd_T44 l0_1 x22_2).f4).length c180_4, .int .i64 ((rd_T44 l0_1 x22_2).f5), .int .i64 ((rd_T44 l0_1 x22_2).f6), .int .i64 0, .slice none 0 0, .slice none 0 0, .int .i64 0, .int .i64 0, .int .i64 0, .slice none 0 0, .slice none 0 0, .slice none 0 0]) ?_ 7 _ rfl; (with_reducible repeat (first | refine blk_drewN ?_ _ | refine blk_drew ?_ | refine blk_alloc ?_ _)); refine blk_put (cs := #[.int .i64 ((rd_T44 l0_1 x22_2).f0), .slice A180_1 ((rd_T44 l0_1 x22_2).f1).length c180_1, .string ((rd_T44 l0_1 x22_2).f2), .int .i64 ((rd_T44 l0_1 x22_2).f3), .slice A180_4 ((rd_T44 l0_1 x22_2).f4).length c180_4, .int .i64 ((rd_T44 l0_1 x22_2).f5), .int .i64 0, .int .i64 0, .slice none 0 0, .slice none 0 0, .int .i64 0, .int .i64 0, .int .i64 0, .slice none 0 0, .slice none 0 0, .slice none 0 0]) ?_ 6 _ rfl; (with_reducible repeat (first | refine blk_drewN ?_ _ | refine blk_drew ?_ | refine blk_alloc ?_ _)); refine blk_put (cs := #[.int .i64 ((rd_T44 l0_1 x22_2).f0), .slice A180_1 ((rd_T44 l0_1 x22_2).f1).length c180_1, .string ((rd_T44 l0_1 x22_2).f2), .int .i64 ((rd_T44 l0_1 x22_2).f3), .slice A180_4 ((rd_T44 l0_1 x22_2).f4).length c180_4, .int .i64 0, .int .i64 0, .int .i64 0, .slice none 0 0, .slice none 0 0, .int .i64 0, .int .i64 0, .int .i64 0, .slice none 0 0, .slice none 0 0, .slice none 0 0]) ?_ 5 _ rfl; (with_reducible repeat (first | refine blk_drewN ?_ _ | refine blk_drew ?_ | refine blk_alloc ?_ _)); refine blk_put (cs := #[.int .i64 ((rd_T44 l0_1 x22_2).f0), .slice A180_1 ((rd_T44 l0_1 x22_2).f1).length c180_1, .string ((rd_T44 l0_1 x22_2).f2), .int .i64 ((rd_T44 l0_1 x22_2).f3), .slice none 0 0, .int .i64 0, .int .i64 0, .int .i64 0, .slice none 0 0, .slice none 0 0, .int .i64 0, .int .i64 0, .int .i64 0, .slice none 0 0, .slice none 0 0, .slice none 0 0]) ?_ 4 _ rfl; (with_reducible repeat (first | refine blk_drewN ?_ _ | refine blk_drew ?_ | refine blk_alloc ?_ _)); refine blk_put (cs := #[.int .i64 ((rd_T44 l0_1 x22_2).f0), .slice A180_1 ((rd_T44 l0_1 x22_2).f1).length c180_1, .string ((rd_T44 l0_1 x22_2).f2), .int .i64 0, .slice none 0 0, .int .i64 0, .int .i64 0, .int .i64 0, .slice none 0 0, .slice none 0 0, .int .i64 0, .int .i64 0, .int .i64 0, .slice none 0 0, .slice none 0 0, .slice none 0 0]) ?_ 3 _ rfl; (with_reducible repeat (first | refine blk_drewN ?_ _ | refine blk_drew ?_ | refine blk_alloc ?_ _)); refine blk_put (cs := #[.int .i64 ((rd_T44 l0_1 x22_2).f0), .slice A180_1 ((rd_T44 l0_1 x22_2).f1).length c180_1, .string (⟨#[]⟩ : ByteArray), .int .i64 0, .slice none 0 0, .int .i64 0, .int .i64 0, .int .i64 0, .slice none 0 0, .slice none 0 0, .int .i64 0, .int .i64 0, .int .i64 0, .slice none 0 0, .slice none 0 0, .slice none 0 0]) ?_ 2 _ rfl; (with_reducible repeat (first | refine blk_drewN ?_ _ | refine blk_drew ?_ | refine blk_alloc ?_ _)); refine blk_put (cs := #[.int .i64 ((rd_T44 l0_1 x22_2).f0), .slice none 0 0, .string (⟨#[]⟩ : ByteArray), .int .i64 0, .slice none 0 0, .int .i64 0, .int .i64 0, .int .i64 0, .slice none 0 0, .slice none 0 0, .int .i64 0, .int .i64 0, .int .i64 0, .slice none 0 0, .slice none 0 0, .slice none 0 0]) ?_ 1 _ rfl; (with_reducible repeat (first | refine blk_drewN ?_ _ | refine blk_drew ?_ | refine blk_alloc ?_ _)); refine blk_put (cs := #[.int .i64 0, .slice none 0 0, .string (⟨#[]⟩ : ByteArray), .int .i64 0, .slice none 0 0, .int .i64 0, .int .i64 0, .int .i64 0, .slice none 0 0, .slice none 0 0, .int .i64 0, .int .i64 0, .int .i64 0, .slice none 0 0, .slice none 0 0, .slice none 0 0]) ?_ 0 _ rfl; (with_reducible repeat (first | refine blk_drewN ?_ _ | refine blk_drew ?_ | refine blk_alloc ?_ _)); exact BK181.out) hb); have n4_ := Aside0.mk (below_stepA hb); clear HO_7; clear BK176; clear BK177; clear BK181; clear HB; have HO_7 := n0_; have BK176 := n1_; have BK177 := n2_; have BK181 := n3_; have HB := n4_; clear n0_ n1_ n2_ n3_ n4_; (try clear hb); (try clear hb2); (try clear hk); (try clear hi); obtain ⟨hcz64_0, hcz64_1, hcz64_2, hcz64_3, hcz64_4, hcz64_5, hcz64_6, hcz64_7, hcz64_8, hcz64_9, hcz64_10, hcz64_11, hcz64_12, hcz64_13, hcz64_14, hcz64_15, hfz64_0, hfz64_1, hfz64_2, hfz64_3, hfz64_4, hfz64_5, hfz64_6, hfz64_7, hfz64_8, hfz64_9, hfz64_10, hfz64_11, hfz64_12, hfz64_13, hfz64_14, hfz64_15⟩ := blk16 BK181.out; have hnb65 := NB177_176.out; have hnc65 := NB176_177.out; obtain ⟨hcz66_0, hcz66_1, hcz66_2, hcz66_3, hcz66_4, hcz66_5, hfz66_0, hfz66_1, hfz66_2, hfz66_3, hfz66_4, hfz66_5⟩ := blk6 BK177.out; obtain ⟨Ao67, co67, eo67⟩ := Kd.R_slice HO_7.out; subst eo67) | ((with_reducible refine gate_callee (f := 26) rfl ?_); refine goesL_ (some 34) rfl rfl Try.func26 (by kernel_rfl) rfl #[.agg #[.int .i64 ((rd_T44 l0_1 x22_2).f0), .slice A180_1 ((rd_T44 l0_1 x22_2).f1).length c180_1, .string ((rd_T44 l0_1 x22_2).f2), .int .i64 ((rd_T44 l0_1 x22_2).f3), .slice A180_4 ((rd_T44 l0_1 x22_2).f4).length c180_4, .int .i64 ((rd_T44 l0_1 x22_2).f5), .int .i64 ((rd_T44 l0_1 x22_2).f6), .int .i64 ((rd_T44 l0_1 x22_2).f7), .slice A180_8 ((rd_T44 l0_1 x22_2).f8).length c180_8, .slice A180_9 ((rd_T44 l0_1 x22_2).f9).length c180_9, .int .i64 ((rd_T44 l0_1 x22_2).f10), .int .i64 ((rd_T44 l0_1 x22_2).f11), .int .i64 ((rd_T44 l0_1 x22_2).f12), .slice A180_13 ((rd_T44 l0_1 x22_2).f13).length c180_13, .slice A180_14 ((rd_T44 l0_1 x22_2).f14).length c180_14, .slice A180_15 ((rd_T44 l0_1 x22_2).f15).length c180_15], .slice Ao67 x7_2.length co67, .agg #[.int .i64 a1_0, .int .i64 a1_1, .int .i64 a1_2, .int .i64 a1_3, .int .i64 a1_4, .int .i64 a1_5]] rfl (by (try simp only [List.map_toArray, List.map_cons, List.map_nil]); first | done | rfl | (simp only [List.length_drop, List.length_take]; rfl)) ?_; (with_reducible refine (bounds_bound.calls k2 ((rd_T44 l0_1 x22_2).f0) _ _ ((rd_T44 l0_1 x22_2).f1) ((rd_T44 l0_1 x22_2).f2) ((rd_T44 l0_1 x22_2).f3) _ _ ((rd_T44 l0_1 x22_2).f4) ((rd_T44 l0_1 x22_2).f5) ((rd_T44 l0_1 x22_2).f6) ((rd_T44 l0_1 x22_2).f7) _ _ ((rd_T44 l0_1 x22_2).f8) _ _ ((rd_T44 l0_1 x22_2).f9) ((rd_T44 l0_1 x22_2).f10) ((rd_T44 l0_1 x22_2).f11) ((rd_T44 l0_1 x22_2).f12) _ _ ((rd_T44 l0_1 x22_2).f13) _ _ ((rd_T44 l0_1 x22_2).f14) _ _ ((rd_T44 l0_1 x22_2).f15) _ _ x7_2 a1_0 a1_1 a1_2 a1_3 a1_4 a1_5 t183 t184 t185 t186 _ ?side1 ?side2 ?side3 ?side4 ?side5 ?side6 ?side7 ?side8 ?side9 ?side10 ?side11 ?side12 ?side13 ?side14 ?side15 ?side16 A25.out).mono ?_); (case side1 => exact c_belowA HR180_1.out); (case side2 => exact HC180_1.out); (case side3 => exact c_belowA HR180_4.out); (case side4 => exact HC180_4.out); (case side5 => exact c_belowA HR180_8.out); (case side6 => exact HC180_8.out); (case side7 => exact c_belowA HR180_9.out); (case side8 => exact HC180_9.out); (case side9 => exact c_belowA HR180_13.out); (case side10 => exact HC180_13.out); (case side11 => exact c_belowA HR180_14.out); (case side12 => exact HC180_14.out); (case side13 => exact c_belowA HR180_15.out); (case side14 => exact HC180_15.out); (case side15 => repeat (first | exact (Kd.R_reads' HO_7.out).2.2 | (with_reducible refine Kd.C_alloc ?_ _) | (with_reducible refine Kd.C_drewN ?_ _) | (with_reducible refine Kd.C_drew ?_))); (case side16 => exact (Kd.R_reads' HO_7.out).2.1); rintro e w68 ⟨rfl, hb⟩; refine ⟨_, rfl, ?_⟩; have n0_ := Aside0.mk (Kd.R_below (by (with_reducible repeat (first | apply Kd.R_alloc | apply Kd.R_drewN | apply Kd.R_drew)); exact HO_7.out) hb); have n1_ := Aside0.mk (blk_keepA BK176.out hb); have n2_ := Aside0.mk (blk_keepA BK177.out hb); have n3_ := Aside0.mk (blk_keepA BK181.out hb); have n4_ := Aside0.mk (below_stepA hb); clear HO_7; clear BK176; clear BK177; clear BK181; clear HB; have HO_7 := n0_; have BK176 := n1_; have BK177 := n2_; have BK181 := n3_; have HB := n4_; clear n0_ n1_ n2_ n3_ n4_; (try clear hb); (try clear hb2); (try clear hk); (try clear hi)) | ((with_reducible refine gate_dst (N := 10) rfl ?_); refine box_event ?hg (N := 10) ?hd (cs := #[.int .i64 0, .int .i64 0, .int .i64 0, .int .i64 0]) (t := 37) ?hr ?_; (case hd => rfl); (case hg => rfl); (case hr => first | (go_simp; done) | (go_simp; rfl)); intro gb187 hg w69 hbox hb; have n0_ := Aside0.mk (Kd.R_below (Kd.R_elderB (by (with_reducible repeat (first | apply Kd.R_alloc | apply Kd.R_drewN | apply Kd.R_drew)); exact HO_7.out) gb187 (Nat.le_of_eq hg.symm)) hb); have n1_ := Aside0.mk (blk_keepA BK176.out hb); have n2_ := Aside0.mk (blk_keepA BK177.out hb); have n3_ := Aside0.mk (blk_keepA BK181.out hb); have n4_ := Aside0.mk (below_stepA hb); have n5_ := Aside0.mk (hbox); have n6_ := Aside0.mk ((by rw [hg]; exact below_sizeA : w.heap.size ≤ gb187)); have n7_ := Aside0.mk ((by rw [hg]; exact below_sizeA : w.heap.size ≤ gb187)); have n8_ := Aside0.mk ((by rw [hg]; exact Nat.ne_of_lt (blk_ltKA BK176.out) : gb176 ≠ gb187)); have n9_ := Aside0.mk ((by rw [hg]; exact Nat.ne_of_gt (blk_ltKA BK176.out) : gb187 ≠ gb176)); have n10_ := Aside0.mk ((by rw [hg]; exact Nat.ne_of_lt (blk_ltKA BK177.out) : gb177 ≠ gb187)); have n11_ := Aside0.mk ((by rw [hg]; exact Nat.ne_of_gt (blk_ltKA BK177.out) : gb187 ≠ gb177)); have n12_ := Aside0.mk ((by rw [hg]; exact Nat.ne_of_lt (blk_ltKA BK181.out) : gb181 ≠ gb187)); have n13_ := Aside0.mk ((by rw [hg]; exact Nat.ne_of_gt (blk_ltKA BK181.out) : gb187 ≠ gb181)); clear HO_7; clear BK176; clear BK177; clear BK181; clear HB; have HO_7 := n0_; have BK176 := n1_; have BK177 := n2_; have BK181 := n3_; have HB := n4_; have BK187 := n5_; have GW187 := n6_; have GE187 := n7_; have NB176_187 := n8_; have NB187_176 := n9_; have NB177_187 := n10_; have NB187_177 := n11_; have NB181_187 := n12_; have NB187_181 := n13_; clear n0_ n1_ n2_ n3_ n4_ n5_ n6_ n7_ n8_ n9_ n10_ n11_ n12_ n13_; clear hb hbox hg; have hnb70 := NB187_176.out; have hnc70 := NB176_187.out; have hnb71 := NB187_177.out; have hnc71 := NB177_187.out; have hnb72 := NB187_181.out; have hnc72 := NB181_187.out; obtain ⟨hcz73_0, hcz73_1, hcz73_2, hcz73_3, hfz73_0, hfz73_1, hfz73_2, hfz73_3⟩ := blk4 BK187.out) | ((with_reducible refine gate_builtin (b := .append) (xs := #[.tmp 44, .tmp 46]) rfl ?_); at_builtin; refine Kd.R_append k37 (w0 := w) w.heap.size rfl (.tmp 44) (.tmp 46) 30 37 (.agg #[(.int .i64 0), (.int .i64 0), (.int .i64 0), (.int .i64 0)]) 32 rfl Try.underlying30 info37 rfl (by decide) (by omega) (.slice Ao67 x7_2.length co67) x7_2 (⟨t183, t184, t185, t186⟩ : S37) [.int .i64 t183, .int .i64 t184, .int .i64 t185, .int .i64 t186] (fun k_ => k_ ≠ gb187) (fun _ => False) rfl (by first | (go_simp; done) | (go_simp; rfl)) ?aP (fun _ hk => hk.elim) ?aF ?aO ?aB ?aS ?aL ?_; (case aP => exact k37_mkM _ _ _ (⟨t183, t184, t185, t186⟩ : S37)); (case aB => exact (by repeat (first | (with_reducible first | exact HB.out | apply below_alloc | apply pw_below_drewN | apply below_drew1 | refine below_set ?_ GE176.out | refine below_set ?_ GE177.out | refine below_set ?_ GE181.out | refine below_set ?_ GE187.out) | exact HB.out))); (case aF => exact (fun k_ hk => Kd.freshB (g := gb187) (o := .cells #[.int .i64 t183, .int .i64 t184, .int .i64 t185, .int .i64 t186] 37 (0, 0)) (by (with_reducible repeat (first | refine blk_drewN ?_ _ | refine blk_drew ?_ | refine blk_alloc ?_ _)); refine blk_put (cs := #[.int .i64 t183, .int .i64 t184, .int .i64 t185, .int .i64 0]) ?_ 3 _ rfl; (with_reducible repeat (first | refine blk_drewN ?_ _ | refine blk_drew ?_ | refine blk_alloc ?_ _)); refine blk_put (cs := #[.int .i64 t183, .int .i64 t184, .int .i64 0, .int .i64 0]) ?_ 2 _ rfl; (with_reducible repeat (first | refine blk_drewN ?_ _ | refine blk_drew ?_ | refine blk_alloc ?_ _)); refine blk_put (cs := #[.int .i64 t183, .int .i64 0, .int .i64 0, .int .i64 0]) ?_ 1 _ rfl; (with_reducible repeat (first | refine blk_drewN ?_ _ | refine blk_drew ?_ | refine blk_alloc ?_ _)); refine blk_put (cs := #[.int .i64 0, .int .i64 0, .int .i64 0, .int .i64 0]) ?_ 0 _ rfl; (with_reducible repeat (first | refine blk_drewN ?_ _ | refine blk_drew ?_ | refine blk_alloc ?_ _)); exact BK187.out) k_ hk)); (case aO => exact (by (with_reducible repeat (first | apply Kd.R_alloc | apply Kd.R_drewN | apply Kd.R_drew)); exact Kd.R_mono (Kd.R_far (p := ⟨gb187, 3, none⟩) (Kd.R_far (p := ⟨gb187, 2, none⟩) (Kd.R_far (p := ⟨gb187, 1, none⟩) (Kd.R_far (p := ⟨gb187, 0, none⟩) (Kd.R_mono HO_7.out (fun k_ hk => (⟨hk, hk.2⟩ : _ ∧ k_ ≠ gb187))) (fun _ hk => hk.2) (.int .i64 t183)) (fun _ hk => hk.2) (.int .i64 t184)) (fun _ hk => hk.2) (.int .i64 t185)) (fun _ hk => hk.2) (.int .i64 t186)) (fun _ hk => hk.1.2))); (case aS => exact below_sizeA); (case aL => have := LMc58.out; omega); intro v189 w74 ho hb hg hat; rw [← Ny188.out] at ho; have n0_ := Aside0.mk (blk_grown (g := gb176) (o := .cells #[.slice A0_0 l0_0.length c0_0, .slice (some ad180) l0_1.length c0_1] 25 (0, 0)) (by (with_reducible repeat (first | refine blk_drewN ?_ _ | refine blk_drew ?_ | refine blk_alloc ?_ _)); refine blk_far ?_ NB176_187.out _; (with_reducible repeat (first | refine blk_drewN ?_ _ | refine blk_drew ?_ | refine blk_alloc ?_ _)); refine blk_far ?_ NB176_187.out _; (with_reducible repeat (first | refine blk_drewN ?_ _ | refine blk_drew ?_ | refine blk_alloc ?_ _)); refine blk_far ?_ NB176_187.out _; (with_reducible repeat (first | refine blk_drewN ?_ _ | refine blk_drew ?_ | refine blk_alloc ?_ _)); refine blk_far ?_ NB176_187.out _; (with_reducible repeat (first | refine blk_drewN ?_ _ | refine blk_drew ?_ | refine blk_alloc ?_ _)); exact BK176.out) hg (Kd.R_ne HO_7.out BK176.out (by decide))); have n1_ := Aside0.mk (blk_grown (g := gb177) (o := .cells #[.int .i64 a1_0, .int .i64 a1_1, .int .i64 a1_2, .int .i64 a1_3, .int .i64 a1_4, .int .i64 a1_5] 27 (0, 0)) (by (with_reducible repeat (first | refine blk_drewN ?_ _ | refine blk_drew ?_ | refine blk_alloc ?_ _)); refine blk_far ?_ NB177_187.out _; (with_reducible repeat (first | refine blk_drewN ?_ _ | refine blk_drew ?_ | refine blk_alloc ?_ _)); refine blk_far ?_ NB177_187.out _; (with_reducible repeat (first | refine blk_drewN ?_ _ | refine blk_drew ?_ | refine blk_alloc ?_ _)); refine blk_far ?_ NB177_187.out _; (with_reducible repeat (first | refine blk_drewN ?_ _ | refine blk_drew ?_ | refine blk_alloc ?_ _)); refine blk_far ?_ NB177_187.out _; (with_reducible repeat (first | refine blk_drewN ?_ _ | refine blk_drew ?_ | refine blk_alloc ?_ _)); exact BK177.out) hg (Kd.R_ne HO_7.out BK177.out (by decide))); have n2_ := Aside0.mk (blk_grown (g := gb181) (o := .cells #[.int .i64 ((rd_T44 l0_1 x22_2).f0), .slice A180_1 ((rd_T44 l0_1 x22_2).f1).length c180_1, .string ((rd_T44 l0_1 x22_2).f2), .int .i64 ((rd_T44 l0_1 x22_2).f3), .slice A180_4 ((rd_T44 l0_1 x22_2).f4).length c180_4, .int .i64 ((rd_T44 l0_1 x22_2).f5), .int .i64 ((rd_T44 l0_1 x22_2).f6), .int .i64 ((rd_T44 l0_1 x22_2).f7), .slice A180_8 ((rd_T44 l0_1 x22_2).f8).length c180_8, .slice A180_9 ((rd_T44 l0_1 x22_2).f9).length c180_9, .int .i64 ((rd_T44 l0_1 x22_2).f10), .int .i64 ((rd_T44 l0_1 x22_2).f11), .int .i64 ((rd_T44 l0_1 x22_2).f12), .slice A180_13 ((rd_T44 l0_1 x22_2).f13).length c180_13, .slice A180_14 ((rd_T44 l0_1 x22_2).f14).length c180_14, .slice A180_15 ((rd_T44 l0_1 x22_2).f15).length c180_15] 44 (0, 0)) (by (with_reducible repeat (first | refine blk_drewN ?_ _ | refine blk_drew ?_ | refine blk_alloc ?_ _)); refine blk_far ?_ NB181_187.out _; (with_reducible repeat (first | refine blk_drewN ?_ _ | refine blk_drew ?_ | refine blk_alloc ?_ _)); refine blk_far ?_ NB181_187.out _; (with_reducible repeat (first | refine blk_drewN ?_ _ | refine blk_drew ?_ | refine blk_alloc ?_ _)); refine blk_far ?_ NB181_187.out _; (with_reducible repeat (first | refine blk_drewN ?_ _ | refine blk_drew ?_ | refine blk_alloc ?_ _)); refine blk_far ?_ NB181_187.out _; (with_reducible repeat (first | refine blk_drewN ?_ _ | refine blk_drew ?_ | refine blk_alloc ?_ _)); exact BK181.out) hg (Kd.R_ne HO_7.out BK181.out (by decide))); have n3_ := Aside0.mk (blk_grown (g := gb187) (o := .cells #[.int .i64 t183, .int .i64 t184, .int .i64 t185, .int .i64 t186] 37 (0, 0)) (by (with_reducible repeat (first | refine blk_drewN ?_ _ | refine blk_drew ?_ | refine blk_alloc ?_ _)); refine blk_put (cs := #[.int .i64 t183, .int .i64 t184, .int .i64 t185, .int .i64 0]) ?_ 3 _ rfl; (with_reducible repeat (first | refine blk_drewN ?_ _ | refine blk_drew ?_ | refine blk_alloc ?_ _)); refine blk_put (cs := #[.int .i64 t183, .int .i64 t184, .int .i64 0, .int .i64 0]) ?_ 2 _ rfl; (with_reducible repeat (first | refine blk_drewN ?_ _ | refine blk_drew ?_ | refine blk_alloc ?_ _)); refine blk_put (cs := #[.int .i64 t183, .int .i64 0, .int .i64 0, .int .i64 0]) ?_ 1 _ rfl; (with_reducible repeat (first | refine blk_drewN ?_ _ | refine blk_drew ?_ | refine blk_alloc ?_ _)); refine blk_put (cs := #[.int .i64 0, .int .i64 0, .int .i64 0, .int .i64 0]) ?_ 0 _ rfl; (with_reducible repeat (first | refine blk_drewN ?_ _ | refine blk_drew ?_ | refine blk_alloc ?_ _)); exact BK187.out) hg (Kd.R_away HO_7.out (fun _ hk => hk.2))); have n4_ := Aside0.mk (hb); have n5_ := Aside0.mk (ho); clear BK176; clear BK177; clear BK181; clear BK187; clear HB; clear HO_7; have BK176 := n0_; have BK177 := n1_; have BK181 := n2_; have BK187 := n3_; have HB := n4_; have HO190 := n5_; clear n0_ n1_ n2_ n3_ n4_ n5_; clear ho hb hg hat))
             go_roundg k2
             case measure => have := HJ2.out; have := HK2.out; omega
             case rel => exact ⟨(y188), (wrap64 (x22_2 + 1)), (by first | rfl | (simp; done) | (simp [*]; done)), H', ⟨by have := HJ2.out; have := HK2.out; omega⟩, ⟨by (with_reducible repeat (first | apply Kd.R_alloc | apply Kd.R_drewN | apply Kd.R_drew)); exact Kd.R_mono HO190.out (fun _ hk => trivial)⟩, ⟨by (with_reducible repeat (first | refine blk_drewN ?_ _ | refine blk_drew ?_ | refine blk_alloc ?_ _)); exact BK176.out⟩, ⟨by (with_reducible repeat (first | refine blk_drewN ?_ _ | refine blk_drew ?_ | refine blk_alloc ?_ _)); exact BK177.out⟩, ⟨by repeat (first | (with_reducible first | exact HB.out | apply below_alloc | apply pw_below_drewN | apply below_drew1 | refine below_set ?_ GE176.out | refine below_set ?_ GE177.out | refine below_set ?_ GE181.out | refine below_set ?_ GE187.out) | exact HB.out)⟩⟩
            ·
             rw [if_neg c58] at H
             exact absurd H (by simp)
         ·
          replace c24 := Bool.eq_false_iff.mpr c24
          subst c24
          have H1 : (some (([] : List (S37)), x22_2, 14)) = some (r1, r2, r3) := by rw [if_neg (show ¬ (false = true) by decide)] at H; exact H
          clear H
          have H := H1
          clear H1
          simp only [Option.some.injEq, Prod.mk.injEq] at H
          obtain ⟨rfl, rfl, rfl⟩ := H
          have p180 : 0 ≤ (x22_2 : Int) := of_decide_eq_true (by first | (with_reducible assumption) | assumption)
          have q180 : x22_2 < (l0_1.length : Int) := of_decide_eq_true (by first | (with_reducible assumption) | assumption)
          obtain ⟨ad180, A180_1, c180_1, A180_4, c180_4, A180_8, c180_8, A180_9, c180_9, A180_13, c180_13, A180_14, c180_14, A180_15, c180_15, e180, hx180_0, hx180_1, hx180_2, hx180_3, hx180_4, hx180_5, hx180_6, hx180_7, hx180_8, hx180_9, hx180_10, hx180_11, hx180_12, hx180_13, hx180_14, hx180_15, hl180_1, hi180_1, hl180_4, hi180_4, hl180_8, hi180_8, hl180_9, hi180_9, hl180_13, hi180_13, hl180_14, hi180_14, hl180_15, hi180_15⟩ := at_T44 HR0_1.out x22_2 p180 q180
          cases e180
          replace hx180_0 := (HB.out.cell (World.block_lt_of_cell? w _ hx180_0)).trans hx180_0
          replace hx180_1 := (HB.out.cell (World.block_lt_of_cell? w _ hx180_1)).trans hx180_1
          replace hx180_2 := (HB.out.cell (World.block_lt_of_cell? w _ hx180_2)).trans hx180_2
          replace hx180_3 := (HB.out.cell (World.block_lt_of_cell? w _ hx180_3)).trans hx180_3
          replace hx180_4 := (HB.out.cell (World.block_lt_of_cell? w _ hx180_4)).trans hx180_4
          replace hx180_5 := (HB.out.cell (World.block_lt_of_cell? w _ hx180_5)).trans hx180_5
          replace hx180_6 := (HB.out.cell (World.block_lt_of_cell? w _ hx180_6)).trans hx180_6
          replace hx180_7 := (HB.out.cell (World.block_lt_of_cell? w _ hx180_7)).trans hx180_7
          replace hx180_8 := (HB.out.cell (World.block_lt_of_cell? w _ hx180_8)).trans hx180_8
          replace hx180_9 := (HB.out.cell (World.block_lt_of_cell? w _ hx180_9)).trans hx180_9
          replace hx180_10 := (HB.out.cell (World.block_lt_of_cell? w _ hx180_10)).trans hx180_10
          replace hx180_11 := (HB.out.cell (World.block_lt_of_cell? w _ hx180_11)).trans hx180_11
          replace hx180_12 := (HB.out.cell (World.block_lt_of_cell? w _ hx180_12)).trans hx180_12
          replace hx180_13 := (HB.out.cell (World.block_lt_of_cell? w _ hx180_13)).trans hx180_13
          replace hx180_14 := (HB.out.cell (World.block_lt_of_cell? w _ hx180_14)).trans hx180_14
          replace hx180_15 := (HB.out.cell (World.block_lt_of_cell? w _ hx180_15)).trans hx180_15
          have HR180_1 := Aside0.mk hi180_1
          have HC180_1 := Aside0.mk hl180_1
          clear hi180_1 hl180_1
          have HR180_4 := Aside0.mk hi180_4
          have HC180_4 := Aside0.mk hl180_4
          clear hi180_4 hl180_4
          have HR180_8 := Aside0.mk hi180_8
          have HC180_8 := Aside0.mk hl180_8
          clear hi180_8 hl180_8
          have HR180_9 := Aside0.mk hi180_9
          have HC180_9 := Aside0.mk hl180_9
          clear hi180_9 hl180_9
          have HR180_13 := Aside0.mk hi180_13
          have HC180_13 := Aside0.mk hl180_13
          clear hi180_13 hl180_13
          have HR180_14 := Aside0.mk hi180_14
          have HC180_14 := Aside0.mk hl180_14
          clear hi180_14 hl180_14
          have HR180_15 := Aside0.mk hi180_15
          have HC180_15 := Aside0.mk hl180_15
          clear hi180_15 hl180_15
          replace p180 := eq_true p180
          replace q180 := eq_true q180
          go_wp2_with (first | ((with_reducible refine gate_dst (N := 9) rfl ?_); refine box_event ?hg (N := 9) ?hd (cs := #[.int .i64 0, .slice none 0 0, .string (⟨#[]⟩ : ByteArray), .int .i64 0, .slice none 0 0, .int .i64 0, .int .i64 0, .int .i64 0, .slice none 0 0, .slice none 0 0, .int .i64 0, .int .i64 0, .int .i64 0, .slice none 0 0, .slice none 0 0, .slice none 0 0]) (t := 44) ?hr ?_; (case hd => rfl); (case hg => rfl); (case hr => first | (go_simp; done) | (go_simp; rfl)); intro gb181 hg w75 hbox hb; have n0_ := Aside0.mk (Kd.R_below (by (with_reducible repeat (first | apply Kd.R_alloc | apply Kd.R_drewN | apply Kd.R_drew)); exact HO_7.out) hb); have n1_ := Aside0.mk (blk_keepA BK176.out hb); have n2_ := Aside0.mk (blk_keepA BK177.out hb); have n3_ := Aside0.mk (below_stepA hb); have n4_ := Aside0.mk (hbox); have n5_ := Aside0.mk ((by rw [hg]; exact below_sizeA : w.heap.size ≤ gb181)); have n6_ := Aside0.mk ((by rw [hg]; exact below_sizeA : w.heap.size ≤ gb181)); have n7_ := Aside0.mk ((by rw [hg]; exact Nat.ne_of_lt (blk_ltKA BK176.out) : gb176 ≠ gb181)); have n8_ := Aside0.mk ((by rw [hg]; exact Nat.ne_of_gt (blk_ltKA BK176.out) : gb181 ≠ gb176)); have n9_ := Aside0.mk ((by rw [hg]; exact Nat.ne_of_lt (blk_ltKA BK177.out) : gb177 ≠ gb181)); have n10_ := Aside0.mk ((by rw [hg]; exact Nat.ne_of_gt (blk_ltKA BK177.out) : gb181 ≠ gb177)); clear HO_7; clear BK176; clear BK177; clear HB; have HO_7 := n0_; have BK176 := n1_; have BK177 := n2_; have HB := n3_; have BK181 := n4_; have GW181 := n5_; have GE181 := n6_; have NB176_181 := n7_; have NB181_176 := n8_; have NB177_181 := n9_; have NB181_177 := n10_; clear n0_ n1_ n2_ n3_ n4_ n5_ n6_ n7_ n8_ n9_ n10_; clear hb hbox hg; have hnb76 := NB181_176.out; have hnc76 := NB176_181.out; have hnb77 := NB181_177.out; have hnc77 := NB177_181.out; obtain ⟨hcz78_0, hcz78_1, hcz78_2, hcz78_3, hcz78_4, hcz78_5, hcz78_6, hcz78_7, hcz78_8, hcz78_9, hcz78_10, hcz78_11, hcz78_12, hcz78_13, hcz78_14, hcz78_15, hfz78_0, hfz78_1, hfz78_2, hfz78_3, hfz78_4, hfz78_5, hfz78_6, hfz78_7, hfz78_8, hfz78_9, hfz78_10, hfz78_11, hfz78_12, hfz78_13, hfz78_14, hfz78_15⟩ := blk16 BK181.out) | ((with_reducible refine gate_callee (f := 12) rfl ?_); refine goesL_ (some 28) rfl rfl Try.func12 (by kernel_rfl) rfl #[.agg #[.int .i64 ((rd_T44 l0_1 x22_2).f0), .slice A180_1 ((rd_T44 l0_1 x22_2).f1).length c180_1, .string ((rd_T44 l0_1 x22_2).f2), .int .i64 ((rd_T44 l0_1 x22_2).f3), .slice A180_4 ((rd_T44 l0_1 x22_2).f4).length c180_4, .int .i64 ((rd_T44 l0_1 x22_2).f5), .int .i64 ((rd_T44 l0_1 x22_2).f6), .int .i64 ((rd_T44 l0_1 x22_2).f7), .slice A180_8 ((rd_T44 l0_1 x22_2).f8).length c180_8, .slice A180_9 ((rd_T44 l0_1 x22_2).f9).length c180_9, .int .i64 ((rd_T44 l0_1 x22_2).f10), .int .i64 ((rd_T44 l0_1 x22_2).f11), .int .i64 ((rd_T44 l0_1 x22_2).f12), .slice A180_13 ((rd_T44 l0_1 x22_2).f13).length c180_13, .slice A180_14 ((rd_T44 l0_1 x22_2).f14).length c180_14, .slice A180_15 ((rd_T44 l0_1 x22_2).f15).length c180_15]] rfl (by (try simp only [List.map_toArray, List.map_cons, List.map_nil]); first | done | rfl | (simp only [List.length_drop, List.length_take]; rfl)) ?_; (with_reducible refine (bounds_Bounded.calls ((rd_T44 l0_1 x22_2).f0) _ _ ((rd_T44 l0_1 x22_2).f1) ((rd_T44 l0_1 x22_2).f2) ((rd_T44 l0_1 x22_2).f3) _ _ ((rd_T44 l0_1 x22_2).f4) ((rd_T44 l0_1 x22_2).f5) ((rd_T44 l0_1 x22_2).f6) ((rd_T44 l0_1 x22_2).f7) _ _ ((rd_T44 l0_1 x22_2).f8) _ _ ((rd_T44 l0_1 x22_2).f9) ((rd_T44 l0_1 x22_2).f10) ((rd_T44 l0_1 x22_2).f11) ((rd_T44 l0_1 x22_2).f12) _ _ ((rd_T44 l0_1 x22_2).f13) _ _ ((rd_T44 l0_1 x22_2).f14) _ _ ((rd_T44 l0_1 x22_2).f15) false _ ?side1 ?side2 ?side3 ?side4 ?side5 ?side6 ?side7 ?side8 ?side9 ?side10 ?side11 ?side12 ?side13 ?side14 A23.out).mono ?_); (case side1 => exact Kd.C_below HR180_1.out (by repeat (first | (with_reducible first | exact HB.out | apply below_alloc | apply pw_below_drewN | apply below_drew1 | refine below_set ?_ GE176.out | refine below_set ?_ GE177.out | refine below_set ?_ GE181.out) | exact HB.out))); (case side2 => exact HC180_1.out); (case side3 => exact Kd.C_below HR180_4.out (by repeat (first | (with_reducible first | exact HB.out | apply below_alloc | apply pw_below_drewN | apply below_drew1 | refine below_set ?_ GE176.out | refine below_set ?_ GE177.out | refine below_set ?_ GE181.out) | exact HB.out))); (case side4 => exact HC180_4.out); (case side5 => exact Kd.C_below HR180_8.out (by repeat (first | (with_reducible first | exact HB.out | apply below_alloc | apply pw_below_drewN | apply below_drew1 | refine below_set ?_ GE176.out | refine below_set ?_ GE177.out | refine below_set ?_ GE181.out) | exact HB.out))); (case side6 => exact HC180_8.out); (case side7 => exact Kd.C_below HR180_9.out (by repeat (first | (with_reducible first | exact HB.out | apply below_alloc | apply pw_below_drewN | apply below_drew1 | refine below_set ?_ GE176.out | refine below_set ?_ GE177.out | refine below_set ?_ GE181.out) | exact HB.out))); (case side8 => exact HC180_9.out); (case side9 => exact Kd.C_below HR180_13.out (by repeat (first | (with_reducible first | exact HB.out | apply below_alloc | apply pw_below_drewN | apply below_drew1 | refine below_set ?_ GE176.out | refine below_set ?_ GE177.out | refine below_set ?_ GE181.out) | exact HB.out))); (case side10 => exact HC180_13.out); (case side11 => exact Kd.C_below HR180_14.out (by repeat (first | (with_reducible first | exact HB.out | apply below_alloc | apply pw_below_drewN | apply below_drew1 | refine below_set ?_ GE176.out | refine below_set ?_ GE177.out | refine below_set ?_ GE181.out) | exact HB.out))); (case side12 => exact HC180_14.out); (case side13 => exact Kd.C_below HR180_15.out (by repeat (first | (with_reducible first | exact HB.out | apply below_alloc | apply pw_below_drewN | apply below_drew1 | refine below_set ?_ GE176.out | refine below_set ?_ GE177.out | refine below_set ?_ GE181.out) | exact HB.out))); (case side14 => exact HC180_15.out); rintro e w79 ⟨rfl, hb⟩; refine ⟨_, rfl, ?_⟩; have n0_ := Aside0.mk (Kd.R_below (by (with_reducible repeat (first | apply Kd.R_alloc | apply Kd.R_drewN | apply Kd.R_drew)); exact (Kd.R_mono (Kd.R_far (p := ⟨gb181, 15, none⟩) (Kd.R_far (p := ⟨gb181, 14, none⟩) (Kd.R_far (p := ⟨gb181, 13, none⟩) (Kd.R_far (p := ⟨gb181, 12, none⟩) (Kd.R_far (p := ⟨gb181, 11, none⟩) (Kd.R_far (p := ⟨gb181, 10, none⟩) (Kd.R_far (p := ⟨gb181, 9, none⟩) (Kd.R_far (p := ⟨gb181, 8, none⟩) (Kd.R_far (p := ⟨gb181, 7, none⟩) (Kd.R_far (p := ⟨gb181, 6, none⟩) (Kd.R_far (p := ⟨gb181, 5, none⟩) (Kd.R_far (p := ⟨gb181, 4, none⟩) (Kd.R_far (p := ⟨gb181, 3, none⟩) (Kd.R_far (p := ⟨gb181, 2, none⟩) (Kd.R_far (p := ⟨gb181, 1, none⟩) (Kd.R_far (p := ⟨gb181, 0, none⟩) (Kd.R_types HO_7.out BK181.out (by decide)) (fun _ hk => hk.2) (.int .i64 ((rd_T44 l0_1 x22_2).f0))) (fun _ hk => hk.2) (.slice A180_1 ((rd_T44 l0_1 x22_2).f1).length c180_1)) (fun _ hk => hk.2) (.string ((rd_T44 l0_1 x22_2).f2))) (fun _ hk => hk.2) (.int .i64 ((rd_T44 l0_1 x22_2).f3))) (fun _ hk => hk.2) (.slice A180_4 ((rd_T44 l0_1 x22_2).f4).length c180_4)) (fun _ hk => hk.2) (.int .i64 ((rd_T44 l0_1 x22_2).f5))) (fun _ hk => hk.2) (.int .i64 ((rd_T44 l0_1 x22_2).f6))) (fun _ hk => hk.2) (.int .i64 ((rd_T44 l0_1 x22_2).f7))) (fun _ hk => hk.2) (.slice A180_8 ((rd_T44 l0_1 x22_2).f8).length c180_8)) (fun _ hk => hk.2) (.slice A180_9 ((rd_T44 l0_1 x22_2).f9).length c180_9)) (fun _ hk => hk.2) (.int .i64 ((rd_T44 l0_1 x22_2).f10))) (fun _ hk => hk.2) (.int .i64 ((rd_T44 l0_1 x22_2).f11))) (fun _ hk => hk.2) (.int .i64 ((rd_T44 l0_1 x22_2).f12))) (fun _ hk => hk.2) (.slice A180_13 ((rd_T44 l0_1 x22_2).f13).length c180_13)) (fun _ hk => hk.2) (.slice A180_14 ((rd_T44 l0_1 x22_2).f14).length c180_14)) (fun _ hk => hk.2) (.slice A180_15 ((rd_T44 l0_1 x22_2).f15).length c180_15)) (fun _ h_ => h_.1))) hb); have n1_ := Aside0.mk (blk_keep BK176.out (fun h_ => by (with_reducible repeat (first | refine blk_drewN ?_ _ | refine blk_drew ?_ | refine blk_alloc ?_ _)); refine blk_far ?_ NB176_181.out _; (with_reducible repeat (first | refine blk_drewN ?_ _ | refine blk_drew ?_ | refine blk_alloc ?_ _)); refine blk_far ?_ NB176_181.out _; (with_reducible repeat (first | refine blk_drewN ?_ _ | refine blk_drew ?_ | refine blk_alloc ?_ _)); refine blk_far ?_ NB176_181.out _; (with_reducible repeat (first | refine blk_drewN ?_ _ | refine blk_drew ?_ | refine blk_alloc ?_ _)); refine blk_far ?_ NB176_181.out _; (with_reducible repeat (first | refine blk_drewN ?_ _ | refine blk_drew ?_ | refine blk_alloc ?_ _)); refine blk_far ?_ NB176_181.out _; (with_reducible repeat (first | refine blk_drewN ?_ _ | refine blk_drew ?_ | refine blk_alloc ?_ _)); refine blk_far ?_ NB176_181.out _; (with_reducible repeat (first | refine blk_drewN ?_ _ | refine blk_drew ?_ | refine blk_alloc ?_ _)); refine blk_far ?_ NB176_181.out _; (with_reducible repeat (first | refine blk_drewN ?_ _ | refine blk_drew ?_ | refine blk_alloc ?_ _)); refine blk_far ?_ NB176_181.out _; (with_reducible repeat (first | refine blk_drewN ?_ _ | refine blk_drew ?_ | refine blk_alloc ?_ _)); refine blk_far ?_ NB176_181.out _; (with_reducible repeat (first | refine blk_drewN ?_ _ | refine blk_drew ?_ | refine blk_alloc ?_ _)); refine blk_far ?_ NB176_181.out _; (with_reducible repeat (first | refine blk_drewN ?_ _ | refine blk_drew ?_ | refine blk_alloc ?_ _)); refine blk_far ?_ NB176_181.out _; (with_reducible repeat (first | refine blk_drewN ?_ _ | refine blk_drew ?_ | refine blk_alloc ?_ _)); refine blk_far ?_ NB176_181.out _; (with_reducible repeat (first | refine blk_drewN ?_ _ | refine blk_drew ?_ | refine blk_alloc ?_ _)); refine blk_far ?_ NB176_181.out _; (with_reducible repeat (first | refine blk_drewN ?_ _ | refine blk_drew ?_ | refine blk_alloc ?_ _)); refine blk_far ?_ NB176_181.out _; (with_reducible repeat (first | refine blk_drewN ?_ _ | refine blk_drew ?_ | refine blk_alloc ?_ _)); refine blk_far ?_ NB176_181.out _; (with_reducible repeat (first | refine blk_drewN ?_ _ | refine blk_drew ?_ | refine blk_alloc ?_ _)); refine blk_far ?_ NB176_181.out _; (with_reducible repeat (first | refine blk_drewN ?_ _ | refine blk_drew ?_ | refine blk_alloc ?_ _)); exact h_) hb); have n2_ := Aside0.mk (blk_keep BK177.out (fun h_ => by (with_reducible repeat (first | refine blk_drewN ?_ _ | refine blk_drew ?_ | refine blk_alloc ?_ _)); refine blk_far ?_ NB177_181.out _; (with_reducible repeat (first | refine blk_drewN ?_ _ | refine blk_drew ?_ | refine blk_alloc ?_ _)); refine blk_far ?_ NB177_181.out _; (with_reducible repeat (first | refine blk_drewN ?_ _ | refine blk_drew ?_ | refine blk_alloc ?_ _)); refine blk_far ?_ NB177_181.out _; (with_reducible repeat (first | refine blk_drewN ?_ _ | refine blk_drew ?_ | refine blk_alloc ?_ _)); refine blk_far ?_ NB177_181.out _; (with_reducible repeat (first | refine blk_drewN ?_ _ | refine blk_drew ?_ | refine blk_alloc ?_ _)); refine blk_far ?_ NB177_181.out _; (with_reducible repeat (first | refine blk_drewN ?_ _ | refine blk_drew ?_ | refine blk_alloc ?_ _)); refine blk_far ?_ NB177_181.out _; (with_reducible repeat (first | refine blk_drewN ?_ _ | refine blk_drew ?_ | refine blk_alloc ?_ _)); refine blk_far ?_ NB177_181.out _; (with_reducible repeat (first | refine blk_drewN ?_ _ | refine blk_drew ?_ | refine blk_alloc ?_ _)); refine blk_far ?_ NB177_181.out _; (with_reducible repeat (first | refine blk_drewN ?_ _ | refine blk_drew ?_ | refine blk_alloc ?_ _)); refine blk_far ?_ NB177_181.out _; (with_reducible repeat (first | refine blk_drewN ?_ _ | refine blk_drew ?_ | refine blk_alloc ?_ _)); refine blk_far ?_ NB177_181.out _; (with_reducible repeat (first | refine blk_drewN ?_ _ | refine blk_drew ?_ | refine blk_alloc ?_ _)); refine blk_far ?_ NB177_181.out _; (with_reducible repeat (first | refine blk_drewN ?_ _ | refine blk_drew ?_ | refine blk_alloc ?_ _)); refine blk_far ?_ NB177_181.out _; (with_reducible repeat (first | refine blk_drewN ?_ _ | refine blk_drew ?_ | refine blk_alloc ?_ _)); refine blk_far ?_ NB177_181.out _; (with_reducible repeat (first | refine blk_drewN ?_ _ | refine blk_drew ?_ | refine blk_alloc ?_ _)); refine blk_far ?_ NB177_181.out _; (with_reducible repeat (first | refine blk_drewN ?_ _ | refine blk_drew ?_ | refine blk_alloc ?_ _)); refine blk_far ?_ NB177_181.out _; (with_reducible repeat (first | refine blk_drewN ?_ _ | refine blk_drew ?_ | refine blk_alloc ?_ _)); refine blk_far ?_ NB177_181.out _; (with_reducible repeat (first | refine blk_drewN ?_ _ | refine blk_drew ?_ | refine blk_alloc ?_ _)); exact h_) hb); have n3_ := Aside0.mk (blk_below (g := gb181) (o := .cells #[.int .i64 ((rd_T44 l0_1 x22_2).f0), .slice A180_1 ((rd_T44 l0_1 x22_2).f1).length c180_1, .string ((rd_T44 l0_1 x22_2).f2), .int .i64 ((rd_T44 l0_1 x22_2).f3), .slice A180_4 ((rd_T44 l0_1 x22_2).f4).length c180_4, .int .i64 ((rd_T44 l0_1 x22_2).f5), .int .i64 ((rd_T44 l0_1 x22_2).f6), .int .i64 ((rd_T44 l0_1 x22_2).f7), .slice A180_8 ((rd_T44 l0_1 x22_2).f8).length c180_8, .slice A180_9 ((rd_T44 l0_1 x22_2).f9).length c180_9, .int .i64 ((rd_T44 l0_1 x22_2).f10), .int .i64 ((rd_T44 l0_1 x22_2).f11), .int .i64 ((rd_T44 l0_1 x22_2).f12), .slice A180_13 ((rd_T44 l0_1 x22_2).f13).length c180_13, .slice A180_14 ((rd_T44 l0_1 x22_2).f14).length c180_14, .slice A180_15 ((rd_T44 l0_1 x22_2).f15).length c180_15] 44 (0, 0)) (by (with_reducible repeat (first | refine blk_drewN ?_ _ | refine blk_drew ?_ | refine blk_alloc ?_ _)); refine blk_put (cs := #[.int .i64 ((rd_T44 l0_1 x22_2).f0), .slice A180_1 ((rd_T44 l0_1 x22_2).f1).length c180_1, .string ((rd_T44 l0_1 x22_2).f2), .int .i64 ((rd_T44 l0_1 x22_2).f3), .slice A180_4 ((rd_T44 l0_1 x22_2).f4).length c180_4, .int .i64 ((rd_T44 l0_1 x22_2).f5), .int .i64 ((rd_T44 l0_1 x22_2).f6), .int .i64 ((rd_T44 l0_1 x22_2).f7), .slice A180_8 ((rd_T44 l0_1 x22_2).f8).length c180_8, .slice A180_9 ((rd_T44 l0_1 x22_2).f9).length c180_9, .int .i64 ((rd_T44 l0_1 x22_2).f10), .int .i64 ((rd_T44 l0_1 x22_2).f11), .int .i64 ((rd_T44 l0_1 x22_2).f12), .slice A180_13 ((rd_T44 l0_1 x22_2).f13).length c180_13, .slice A180_14 ((rd_T44 l0_1 x22_2).f14).length c180_14, .slice none 0 0]) ?_ 15 _ rfl; (with_reducible repeat (first | refine blk_drewN ?_ _ | refine blk_drew ?_ | refine blk_alloc ?_ _)); refine blk_put (cs := #[.int .i64 ((rd_T44 l0_1 x22_2).f0), .slice A180_1 ((rd_T44 l0_1 x22_2).f1).length c180_1, .string ((rd_T44 l0_1 x22_2).f2), .int .i64 ((rd_T44 l0_1 x22_2).f3), .slice A180_4 ((rd_T44 l0_1 x22_2).f4).length c180_4, .int .i64 ((rd_T44 l0_1 x22_2).f5), .int .i64 ((rd_T44 l0_1 x22_2).f6), .int .i64 ((rd_T44 l0_1 x22_2).f7), .slice A180_8 ((rd_T44 l0_1 x22_2).f8).length c180_8, .slice A180_9 ((rd_T44 l0_1 x22_2).f9).length c180_9, .int .i64 ((rd_T44 l0_1 x22_2).f10), .int .i64 ((rd_T44 l0_1 x22_2).f11), .int .i64 ((rd_T44 l0_1 x22_2).f12), .slice A180_13 ((rd_T44 l0_1 x22_2).f13).length c180_13, .slice none 0 0, .slice none 0 0]) ?_ 14 _ rfl; (with_reducible repeat (first | refine blk_drewN ?_ _ | refine blk_drew ?_ | refine blk_alloc ?_ _)); refine blk_put (cs := #[.int .i64 ((rd_T44 l0_1 x22_2).f0), .slice A180_1 ((rd_T44 l0_1 x22_2).f1).length c180_1, .string ((rd_T44 l0_1 x22_2).f2), .int .i64 ((rd_T44 l0_1 x22_2).f3), .slice A180_4 ((rd_T44 l0_1 x22_2).f4).length c180_4, .int .i64 ((rd_T44 l0_1 x22_2).f5), .int .i64 ((rd_T44 l0_1 x22_2).f6), .int .i64 ((rd_T44 l0_1 x22_2).f7), .slice A180_8 ((rd_T44 l0_1 x22_2).f8).length c180_8, .slice A180_9 ((rd_T44 l0_1 x22_2).f9).length c180_9, .int .i64 ((rd_T44 l0_1 x22_2).f10), .int .i64 ((rd_T44 l0_1 x22_2).f11), .int .i64 ((rd_T44 l0_1 x22_2).f12), .slice none 0 0, .slice none 0 0, .slice none 0 0]) ?_ 13 _ rfl; (with_reducible repeat (first | refine blk_drewN ?_ _ | refine blk_drew ?_ | refine blk_alloc ?_ _)); refine blk_put (cs := #[.int .i64 ((rd_T44 l0_1 x22_2).f0), .slice A180_1 ((rd_T44 l0_1 x22_2).f1).length c180_1, .string ((rd_T44 l0_1 x22_2).f2), .int .i64 ((rd_T44 l0_1 x22_2).f3), .slice A180_4 ((rd_T44 l0_1 x22_2).f4).length c180_4, .int .i64 ((rd_T44 l0_1 x22_2).f5), .int .i64 ((rd_T44 l0_1 x22_2).f6), .int .i64 ((rd_T44 l0_1 x22_2).f7), .slice A180_8 ((rd_T44 l0_1 x22_2).f8).length c180_8, .slice A180_9 ((rd_T44 l0_1 x22_2).f9).length c180_9, .int .i64 ((rd_T44 l0_1 x22_2).f10), .int .i64 ((rd_T44 l0_1 x22_2).f11), .int .i64 0, .slice none 0 0, .slice none 0 0, .slice none 0 0]) ?_ 12 _ rfl; (with_reducible repeat (first | refine blk_drewN ?_ _ | refine blk_drew ?_ | refine blk_alloc ?_ _)); refine blk_put (cs := #[.int .i64 ((rd_T44 l0_1 x22_2).f0), .slice A180_1 ((rd_T44 l0_1 x22_2).f1).length c180_1, .string ((rd_T44 l0_1 x22_2).f2), .int .i64 ((rd_T44 l0_1 x22_2).f3), .slice A180_4 ((rd_T44 l0_1 x22_2).f4).length c180_4, .int .i64 ((rd_T44 l0_1 x22_2).f5), .int .i64 ((rd_T44 l0_1 x22_2).f6), .int .i64 ((rd_T44 l0_1 x22_2).f7), .slice A180_8 ((rd_T44 l0_1 x22_2).f8).length c180_8, .slice A180_9 ((rd_T44 l0_1 x22_2).f9).length c180_9, .int .i64 ((rd_T44 l0_1 x22_2).f10), .int .i64 0, .int .i64 0, .slice none 0 0, .slice none 0 0, .slice none 0 0]) ?_ 11 _ rfl; (with_reducible repeat (first | refine blk_drewN ?_ _ | refine blk_drew ?_ | refine blk_alloc ?_ _)); refine blk_put (cs := #[.int .i64 ((rd_T44 l0_1 x22_2).f0), .slice A180_1 ((rd_T44 l0_1 x22_2).f1).length c180_1, .string ((rd_T44 l0_1 x22_2).f2), .int .i64 ((rd_T44 l0_1 x22_2).f3), .slice A180_4 ((rd_T44 l0_1 x22_2).f4).length c180_4, .int .i64 ((rd_T44 l0_1 x22_2).f5), .int .i64 ((rd_T44 l0_1 x22_2).f6), .int .i64 ((rd_T44 l0_1 x22_2).f7), .slice A180_8 ((rd_T44 l0_1 x22_2).f8).length c180_8, .slice A180_9 ((rd_T44 l0_1 x22_2).f9).length c180_9, .int .i64 0, .int .i64 0, .int .i64 0, .slice none 0 0, .slice none 0 0, .slice none 0 0]) ?_ 10 _ rfl; (with_reducible repeat (first | refine blk_drewN ?_ _ | refine blk_drew ?_ | refine blk_alloc ?_ _)); refine blk_put (cs := #[.int .i64 ((rd_T44 l0_1 x22_2).f0), .slice A180_1 ((rd_T44 l0_1 x22_2).f1).length c180_1, .string ((rd_T44 l0_1 x22_2).f2), .int .i64 ((rd_T44 l0_1 x22_2).f3), .slice A180_4 ((rd_T44 l0_1 x22_2).f4).length c180_4, .int .i64 ((rd_T44 l0_1 x22_2).f5), .int .i64 ((rd_T44 l0_1 x22_2).f6), .int .i64 ((rd_T44 l0_1 x22_2).f7), .slice A180_8 ((rd_T44 l0_1 x22_2).f8).length c180_8, .slice none 0 0, .int .i64 0, .int .i64 0, .int .i64 0, .slice none 0 0, .slice none 0 0, .slice none 0 0]) ?_ 9 _ rfl; (with_reducible repeat (first | refine blk_drewN ?_ _ | refine blk_drew ?_ | refine blk_alloc ?_ _)); refine blk_put (cs := #[.int .i64 ((rd_T44 l0_1 x22_2).f0), .slice A180_1 ((rd_T44 l0_1 x22_2).f1).length c180_1, .string ((rd_T44 l0_1 x22_2).f2), .int .i64 ((rd_T44 l0_1 x22_2).f3), .slice A180_4 ((rd_T44 l0_1 x22_2).f4).length c180_4, .int .i64 ((rd_T44 l0_1 x22_2).f5), .int .i64 ((rd_T44 l0_1 x22_2).f6), .int .i64 ((rd_T44 l0_1 x22_2).f7), .slice none 0 0, .slice none 0 0, .int .i64 0, .int .i64 0, .int .i64 0, .slice none 0 0, .slice none 0 0, .slice none 0 0]) ?_ 8 _ rfl; (with_reducible repeat (first | refine blk_drewN ?_ _ | refine blk_drew ?_ | refine blk_alloc ?_ _)); refine blk_put (cs := #[.int .i64 ((rd_T44 l0_1 x22_2).f0), .slice A180_1 ((rd_T44 l0_1 x22_2).f1).length c180_1, .string ((rd_T44 l0_1 x22_2).f2), .int .i64 ((rd_T44 l0_1 x22_2).f3), .slice A180_4 ((rd_T44 l0_1 x22_2).f4).length c180_4, .int .i64 ((rd_T44 l0_1 x22_2).f5), .int .i64 ((rd_T44 l0_1 x22_2).f6), .int .i64 0, .slice none 0 0, .slice none 0 0, .int .i64 0, .int .i64 0, .int .i64 0, .slice none 0 0, .slice none 0 0, .slice none 0 0]) ?_ 7 _ rfl; (with_reducible repeat (first | refine blk_drewN ?_ _ | refine blk_drew ?_ | refine blk_alloc ?_ _)); refine blk_put (cs := #[.int .i64 ((rd_T44 l0_1 x22_2).f0), .slice A180_1 ((rd_T44 l0_1 x22_2).f1).length c180_1, .string ((rd_T44 l0_1 x22_2).f2), .int .i64 ((rd_T44 l0_1 x22_2).f3), .slice A180_4 ((rd_T44 l0_1 x22_2).f4).length c180_4, .int .i64 ((rd_T44 l0_1 x22_2).f5), .int .i64 0, .int .i64 0, .slice none 0 0, .slice none 0 0, .int .i64 0, .int .i64 0, .int .i64 0, .slice none 0 0, .slice none 0 0, .slice none 0 0]) ?_ 6 _ rfl; (with_reducible repeat (first | refine blk_drewN ?_ _ | refine blk_drew ?_ | refine blk_alloc ?_ _)); refine blk_put (cs := #[.int .i64 ((rd_T44 l0_1 x22_2).f0), .slice A180_1 ((rd_T44 l0_1 x22_2).f1).length c180_1, .string ((rd_T44 l0_1 x22_2).f2), .int .i64 ((rd_T44 l0_1 x22_2).f3), .slice A180_4 ((rd_T44 l0_1 x22_2).f4).length c180_4, .int .i64 0, .int .i64 0, .int .i64 0, .slice none 0 0, .slice none 0 0, .int .i64 0, .int .i64 0, .int .i64 0, .slice none 0 0, .slice none 0 0, .slice none 0 0]) ?_ 5 _ rfl; (with_reducible repeat (first | refine blk_drewN ?_ _ | refine blk_drew ?_ | refine blk_alloc ?_ _)); refine blk_put (cs := #[.int .i64 ((rd_T44 l0_1 x22_2).f0), .slice A180_1 ((rd_T44 l0_1 x22_2).f1).length c180_1, .string ((rd_T44 l0_1 x22_2).f2), .int .i64 ((rd_T44 l0_1 x22_2).f3), .slice none 0 0, .int .i64 0, .int .i64 0, .int .i64 0, .slice none 0 0, .slice none 0 0, .int .i64 0, .int .i64 0, .int .i64 0, .slice none 0 0, .slice none 0 0, .slice none 0 0]) ?_ 4 _ rfl; (with_reducible repeat (first | refine blk_drewN ?_ _ | refine blk_drew ?_ | refine blk_alloc ?_ _)); refine blk_put (cs := #[.int .i64 ((rd_T44 l0_1 x22_2).f0), .slice A180_1 ((rd_T44 l0_1 x22_2).f1).length c180_1, .string ((rd_T44 l0_1 x22_2).f2), .int .i64 0, .slice none 0 0, .int .i64 0, .int .i64 0, .int .i64 0, .slice none 0 0, .slice none 0 0, .int .i64 0, .int .i64 0, .int .i64 0, .slice none 0 0, .slice none 0 0, .slice none 0 0]) ?_ 3 _ rfl; (with_reducible repeat (first | refine blk_drewN ?_ _ | refine blk_drew ?_ | refine blk_alloc ?_ _)); refine blk_put (cs := #[.int .i64 ((rd_T44 l0_1 x22_2).f0), .slice A180_1 ((rd_T44 l0_1 x22_2).f1).length c180_1, .string (⟨#[]⟩ : ByteArray), .int .i64 0, .slice none 0 0, .int .i64 0, .int .i64 0, .int .i64 0, .slice none 0 0, .slice none 0 0, .int .i64 0, .int .i64 0, .int .i64 0, .slice none 0 0, .slice none 0 0, .slice none 0 0]) ?_ 2 _ rfl; (with_reducible repeat (first | refine blk_drewN ?_ _ | refine blk_drew ?_ | refine blk_alloc ?_ _)); refine blk_put (cs := #[.int .i64 ((rd_T44 l0_1 x22_2).f0), .slice none 0 0, .string (⟨#[]⟩ : ByteArray), .int .i64 0, .slice none 0 0, .int .i64 0, .int .i64 0, .int .i64 0, .slice none 0 0, .slice none 0 0, .int .i64 0, .int .i64 0, .int .i64 0, .slice none 0 0, .slice none 0 0, .slice none 0 0]) ?_ 1 _ rfl; (with_reducible repeat (first | refine blk_drewN ?_ _ | refine blk_drew ?_ | refine blk_alloc ?_ _)); refine blk_put (cs := #[.int .i64 0, .slice none 0 0, .string (⟨#[]⟩ : ByteArray), .int .i64 0, .slice none 0 0, .int .i64 0, .int .i64 0, .int .i64 0, .slice none 0 0, .slice none 0 0, .int .i64 0, .int .i64 0, .int .i64 0, .slice none 0 0, .slice none 0 0, .slice none 0 0]) ?_ 0 _ rfl; (with_reducible repeat (first | refine blk_drewN ?_ _ | refine blk_drew ?_ | refine blk_alloc ?_ _)); exact BK181.out) hb); have n4_ := Aside0.mk (below_stepA hb); clear HO_7; clear BK176; clear BK177; clear BK181; clear HB; have HO_7 := n0_; have BK176 := n1_; have BK177 := n2_; have BK181 := n3_; have HB := n4_; clear n0_ n1_ n2_ n3_ n4_; (try clear hb); (try clear hb2); (try clear hk); (try clear hi)))
          go_ret3
          exact ⟨_, by first | rfl | (simp [errW_none, errW_some] <;> rfl) | (simp [*, errW_none, errW_some] <;> rfl), by first | exact Kd.R_nil _ _ _ _ _ | exact Kd.N_nil _ _ _ _ _ | exact Kd.V_nil _ _ _ _ _ | exact Kd.Q_nil _ _ _ _ _ | exact Kd.S_nil _ _ _ _ _, by repeat (first | (with_reducible first | exact HB.out | apply below_alloc | apply pw_below_drewN | apply below_drew1 | refine below_set ?_ GE176.out | refine below_set ?_ GE177.out | refine below_set ?_ GE181.out) | exact HB.out)⟩
        ·
         rw [if_neg c22] at H
         exact absurd H (by simp)
       ·
        rw [if_neg c21] at H
        exact absurd H (by simp)
      ·
       rw [if_neg c20] at H
       have c20b0 : decide (x22_2 < (l0_1.length : Int)) = false := decide_eq_false c20
       clear c20
       simp only [Option.some.injEq, Prod.mk.injEq] at H
       obtain ⟨rfl, rfl, rfl⟩ := H
       go_wp2
       go_ret3
       exact ⟨_, by first | rfl | (simp [errW_none, errW_some] <;> rfl) | (simp [*, errW_none, errW_some] <;> rfl), by (with_reducible repeat (first | apply Kd.R_alloc | apply Kd.R_drewN | apply Kd.R_drew)); exact HO_7.out, by repeat (first | (with_reducible first | exact HB.out | apply below_alloc | apply pw_below_drewN | apply below_drew1 | refine below_set ?_ GE176.out | refine below_set ?_ GE177.out) | exact HB.out)⟩

end Go.Proofs.Yteoljddobfnfiaa.PB
end
section
namespace Go.Proofs.Yteoljddobfnfiaa.Pure
open Go.RowKit Go.Proofs.YteoljddobfnfiaaW.PrintWords Go.Proofs.YteoljddobfnfiaaW.PrintLast Go.Proofs.YteoljddobfnfiaaW.PrintMore Go.Proofs.Yteoljddobfnfiaa.PB
set_option linter.unusedVariables false
set_option linter.unusedSimpArgs false

def ana (c0 c4 c5 : Int) : Int → List S37 → List S44 → List S37 × Int × Int
  | _, bs, [] => (bs, -1, 0)
  | i, bs, n :: r => if bdd n = true then
      if 1099511627776 ≤ (boundOf bs c0 c4 c5 n).f2 ∨ 1099511627776 ≤ (boundOf bs c0 c4 c5 n).f3 then ([], i, 14) else ana c0 c4 c5 (i + 1) (bs ++ [boundOf bs c0 c4 c5 n]) r
    else ([], i, 14)
def analyze (l : List S44) (c0 c1 c2 c3 c4 c5 : Int) : List S37 × Int × Int :=
  if rightC c0 c1 c2 c3 c4 c5 ∧ well l = true then ana c0 c4 c5 0 [] l else ([], -1, 2)
theorem well_len {l : List S44} (h : well l = true) : okFrom 0 l = true ∧ 1 ≤ (l.length : Int) ∧ (l.length : Int) ≤ 40 := by
  unfold well at h
  simp only [Bool.and_eq_true, decide_eq_true_eq] at h
  exact h
theorem Ana_l0 {c0 c1 c2 c3 c4 c5 : Int} (l : List S44) (h0 : 1 ≤ c0 ∧ c0 ≤ 8) (h4 : 1 ≤ c4 ∧ c4 ≤ 20) (h5 : 0 ≤ c5 ∧ c5 ≤ 30000) (hlen : l.length ≤ 40) : ∀ d i : Nat, i + d = l.length → ∀ bs, pre (i : Int) bs → okFrom (i : Int) (l.drop i) = true →
    Ev (fun k => bounds_Analyze.l0 k bs l (l.length : Int) (i : Int) c0 c1 c2 c3 c4 c5) (ana c0 c4 c5 (i : Int) bs (l.drop i))
  | 0, i, hi, bs, hp, hok => by
    refine Ev.step (f := fun _ => some (bs, -1, 0)) (fun k => ?_) (by rw [List.drop_of_length_le (by omega)]; exact Ev.now _)
    simp only [bounds_Analyze.l0]
    rw [if_neg (by omega)]
  | d + 1, i, hi, bs, hp, hok => by
    have hil : i < l.length := by omega
    have e : l.drop i = l[i] :: l.drop (i + 1) := List.drop_eq_getElem_cons hil
    rw [e, okFrom] at hok
    obtain ⟨hok1, hok2⟩ := Bool.and_eq_true_iff.1 hok
    rw [e, ana]
    by_cases hb : bdd l[i] = true
    · rw [if_pos hb]
      have hv := bound_ev l[i] hok1 hp (by omega) hb h0 h4 h5 (c1 := c1) (c2 := c2) (c3 := c3)
      have hlb : bs.length < 4398046511104 := by have := hp.1; omega
      refine Ev.step (f := fun k => (bounds_bound.f k l[i].f0 l[i].f1 l[i].f2 l[i].f3 l[i].f4 l[i].f5 l[i].f6 l[i].f7 l[i].f8 l[i].f9 l[i].f10 l[i].f11 l[i].f12 l[i].f13 l[i].f14 l[i].f15 bs c0 c1 c2 c3 c4 c5).bind fun bt183 => (if bt183.2.2.1 ≥ 1099511627776 then (some (([] : List (S37)), (i : Int), 14)) else (if bt183.2.2.2 ≥ 1099511627776 then (some (([] : List (S37)), (i : Int), 14)) else (if bs.length < 4398046511104 then (bounds_Analyze.l0 k (bs ++ [(⟨bt183.1, bt183.2.1, bt183.2.2.1, bt183.2.2.2⟩ : S37)]) l (l.length : Int) (wrap64 ((i : Int) + 1)) c0 c1 c2 c3 c4 c5) else (none))))) (fun k => ?_) (Ev.bind hv ?_)
      · simp only [bounds_Analyze.l0]
        rw [if_pos (by omega), if_pos (by omega), if_pos (by omega), rd44_at hil, Bounded_eq, Option.bind_some, if_pos hb]
      · dsimp only
        by_cases m2 : 1099511627776 ≤ (boundOf bs c0 c4 c5 l[i]).f2
        · rw [if_pos (Or.inl m2)]
          refine Ev.congr (fun k => ?_) (Ev.now _)
          rw [if_pos m2]
        by_cases m3 : 1099511627776 ≤ (boundOf bs c0 c4 c5 l[i]).f3
        · rw [if_pos (Or.inr m3)]
          refine Ev.congr (fun k => ?_) (Ev.now _)
          rw [if_neg m2, if_pos m3]
        rw [if_neg (by intro h; cases h <;> contradiction)]
        have hp2 := pre_snoc hp (boundOf_ok (by omega) hp hok1 hb h0 h4 h5.1)
        rw [cast_succ] at hp2 hok2 ⊢
        have ih := Ana_l0 l h0 h4 h5 hlen d (i + 1) (by omega) _ hp2 hok2 (c1 := c1) (c2 := c2) (c3 := c3)
        refine Ev.congr (fun k => ?_) ih
        rw [if_neg m2, if_neg m3, if_pos hlb, wrap_id (n := ((i + 1 : Nat) : Int)) (by omega) (by omega)]
    · rw [if_neg hb]
      refine Ev.step (f := fun _ => some ([], (i : Int), 14)) (fun k => ?_) (Ev.now _)
      simp only [bounds_Analyze.l0]
      rw [if_pos (by omega), if_pos (by omega), if_pos (by omega), rd44_at hil, Bounded_eq, Option.bind_some, if_neg hb]
theorem Ana_ev (l : List S44) (F : List S95) (hl : l.length ≤ 9223372036854775807) (hin : ∀ n ∈ l, n.f1.length ≤ 9223372036854775807) (c0 c1 c2 c3 c4 c5 : Int) :
    Ev (fun k => bounds_Analyze.f k F l c0 c1 c2 c3 c4 c5) (analyze l c0 c1 c2 c3 c4 c5) := by
  unfold analyze
  by_cases hc : rightC c0 c1 c2 c3 c4 c5
  · refine Ev.congr (f := fun k => (bounds_Well.f k F l).bind fun t179 => (bounds_Analyze.j0 k (!t179) F l c0 c1 c2 c3 c4 c5)) (fun k => ?_) (Ev.bind (Well_ev l F hl hin) ?_)
    · unfold bounds_Analyze.f
      rw [RightConfig_eq, Option.bind_some, if_pos (decide_eq_true hc)]
    · cases hw : well l with
      | true =>
        rw [if_pos ⟨hc, rfl⟩]
        obtain ⟨w1, w2, w3⟩ := well_len hw
        unfold rightC at hc
        have := Ana_l0 l (by omega) (by omega) (by omega) (by omega) l.length 0 (by omega) [] ⟨rfl, fun b hb => by cases hb⟩ (by rw [List.drop_zero]; exact w1) (c0 := c0) (c1 := c1) (c2 := c2) (c3 := c3) (c4 := c4) (c5 := c5)
        rw [List.drop_zero] at this
        refine Ev.step (fun k => ?_) this
        simp only [bounds_Analyze.j0]
        rfl
      | false =>
        rw [if_neg (by simp)]
        refine Ev.step (fun k => ?_) (Ev.now _)
        simp only [bounds_Analyze.j0]
        rfl
  · rw [if_neg (fun h => hc h.1)]
    refine Ev.step (f := fun _ => some ([], -1, 2)) (fun k => ?_) (Ev.now _)
    unfold bounds_Analyze.f
    rw [RightConfig_eq, Option.bind_some, if_neg (by simp [hc])]
    simp only [bounds_Analyze.j0]
    rfl
end Go.Proofs.Yteoljddobfnfiaa.Pure
end
section
namespace Go.Proofs.Yteoljddobfnfiaa.PB
open Go.RowKit Go.Proofs.YteoljddobfnfiaaW.PrintWords Go.Proofs.YteoljddobfnfiaaW.PrintLast Go.Proofs.YteoljddobfnfiaaW.PrintMore
attribute [local go_sem] max2_int min2_int max_two min_two max_three min_three max_four min_four
attribute [local go_sem ↓ high] Go.Proofs.Yteoljddobfnfiaa.My.ld44_eq Go.Proofs.Yteoljddobfnfiaa.My.st44_eq Go.Proofs.Yteoljddobfnfiaa.My.ld27_eq Go.Proofs.Yteoljddobfnfiaa.My.st27_eq Go.Proofs.Yteoljddobfnfiaa.My.ld37_eq Go.Proofs.Yteoljddobfnfiaa.My.st37_eq Go.Proofs.Yteoljddobfnfiaa.My.ld65_eq Go.Proofs.Yteoljddobfnfiaa.My.st65_eq
attribute [local go_sem high] Go.Proofs.Yteoljddobfnfiaa.My.ld44_run Go.Proofs.Yteoljddobfnfiaa.My.st44_run Go.Proofs.Yteoljddobfnfiaa.My.ld27_run Go.Proofs.Yteoljddobfnfiaa.My.st27_run Go.Proofs.Yteoljddobfnfiaa.My.ld37_run Go.Proofs.Yteoljddobfnfiaa.My.st37_run Go.Proofs.Yteoljddobfnfiaa.My.ld65_run Go.Proofs.Yteoljddobfnfiaa.My.st65_run
open Go.Proofs.Yteoljddobfnfiaa.My
attribute [local go_sem] cell_map run_store_fnV one_int one_bool one_string one_slice one_fnV
set_option linter.unusedVariables false
set_option linter.unusedSimpArgs false

theorem eqA37 (d : Nat) (w : World) (x0 y0 : Int) (x1 y1 : Int) (x2 y2 : Int) (x3 y3 : Int) :
    (Op.equalIn (d + 2) 37 (.agg #[.int .i64 x0, .int .i64 x1, .int .i64 x2, .int .i64 x3]) (.agg #[.int .i64 y0, .int .i64 y1, .int .i64 y2, .int .i64 y3])).run Try.prog w = .ok (x0 == y0 && (x1 == y1 && (x2 == y2 && (x3 == y3)))) w := by
  refine eqA_of Try.underlying37 (by kernel_rfl) ?_
  refine eqf_cons (by rfl) (by go_simp; rfl) (by go_simp; rfl) (by go_simp) ?_
  refine eqf_cons (by rfl) (by go_simp; rfl) (by go_simp; rfl) (by go_simp) ?_
  refine eqf_cons (by rfl) (by go_simp; rfl) (by go_simp; rfl) (by go_simp) ?_
  exact eqf_last (by rfl) (by go_simp; rfl) (by go_simp; rfl) (by go_simp)
end Go.Proofs.Yteoljddobfnfiaa.PB
end
section
namespace Go.Proofs.Yteoljddobfnfiaa.PB
open Go.RowKit Go.Proofs.YteoljddobfnfiaaW.PrintWords Go.Proofs.YteoljddobfnfiaaW.PrintLast Go.Proofs.YteoljddobfnfiaaW.PrintMore
attribute [local go_sem] max2_int min2_int max_two min_two max_three min_three max_four min_four
attribute [local go_sem ↓ high] Go.Proofs.Yteoljddobfnfiaa.My.ld44_eq Go.Proofs.Yteoljddobfnfiaa.My.st44_eq Go.Proofs.Yteoljddobfnfiaa.My.ld27_eq Go.Proofs.Yteoljddobfnfiaa.My.st27_eq Go.Proofs.Yteoljddobfnfiaa.My.ld37_eq Go.Proofs.Yteoljddobfnfiaa.My.st37_eq Go.Proofs.Yteoljddobfnfiaa.My.ld65_eq Go.Proofs.Yteoljddobfnfiaa.My.st65_eq
attribute [local go_sem high] Go.Proofs.Yteoljddobfnfiaa.My.ld44_run Go.Proofs.Yteoljddobfnfiaa.My.st44_run Go.Proofs.Yteoljddobfnfiaa.My.ld27_run Go.Proofs.Yteoljddobfnfiaa.My.st27_run Go.Proofs.Yteoljddobfnfiaa.My.ld37_run Go.Proofs.Yteoljddobfnfiaa.My.st37_run Go.Proofs.Yteoljddobfnfiaa.My.ld65_run Go.Proofs.Yteoljddobfnfiaa.My.st65_run
open Go.Proofs.Yteoljddobfnfiaa.My
attribute [local go_sem] cell_map run_store_fnV one_int one_bool one_string one_slice one_fnV
set_option linter.unusedVariables false
set_option linter.unusedSimpArgs false

attribute [local go_sem high] eqA37
def errataref20_Same.l0 : Nat → List (S37) → List (S37) → Int → Option (Bool)
  | 0, _, _, _ => none
  | k + 1, x0, x1, x5 => if x5 < (x0.length : Int) then (if 0 ≤ x5 then (if x5 < (x1.length : Int) then (if (!(((rd_T37 x0 x5).f0) == ((rd_T37 x1 x5).f0)) || (!(((rd_T37 x0 x5).f1) == ((rd_T37 x1 x5).f1)) || (!(((rd_T37 x0 x5).f2) == ((rd_T37 x1 x5).f2)) || (!(((rd_T37 x0 x5).f3) == ((rd_T37 x1 x5).f3)))))) = true then (some false) else (errataref20_Same.l0 k x0 x1 (wrap64 (x5 + 1)))) else (none)) else (none)) else (some true)
def errataref20_Same.f (k : Nat) (l0 : List (S37)) (l1 : List (S37)) : Option (Bool) := if (l0.length : Int) = (l1.length : Int) then (errataref20_Same.l0 k l0 l1 0) else (some false)
theorem errataref20_Same.mono_l : ∀ k, (∀ y0 y1 y2, LeO (errataref20_Same.l0 k y0 y1 y2) (errataref20_Same.l0 (k + 1) y0 y1 y2))
  | 0 => fun _ _ _ r h => by simp [errataref20_Same.l0] at h
  | k + 1 => by
    have ih0 := errataref20_Same.mono_l k
    · intro y0 y1 y2
      unfold errataref20_Same.l0
      repeat' first
      | (with_reducible first | exact ih0 _ _ _ | exact LeO.refl _ | exact LeO.none _ | refine LeO.ite ?_ ?_ | refine LeO.bind ?_ (fun _ => ?_))
      | exact ih0 _ _ _ | exact LeO.none _ | refine LeO.ite ?_ ?_ | refine LeO.bind ?_ (fun _ => ?_)
theorem errataref20_Same.mono : ∀ a0 a1 k, LeO (errataref20_Same.f k a0 a1) (errataref20_Same.f (k + 1) a0 a1) := by
  intro a0 a1 k
  have ih0 := errataref20_Same.mono_l k
  unfold errataref20_Same.f
  repeat' first
      | (with_reducible first | exact ih0 _ _ _ | exact LeO.refl _ | exact LeO.none _ | refine LeO.ite ?_ ?_ | refine LeO.bind ?_ (fun _ => ?_))
      | exact ih0 _ _ _ | exact LeO.none _ | refine LeO.ite ?_ ?_ | refine LeO.bind ?_ (fun _ => ?_)
set_option maxHeartbeats 8000000 in
set_option maxRecDepth 100000 in
theorem errataref20_Same.calls (k : Nat) (A0 : Option Addr) (c0 : Nat) (l0 : List (S37)) (A1 : Option Addr) (c1 : Nat) (l1 : List (S37)) (r : Bool) (w : World) (hr0 : Kd.C k37 w A0 l0.length l0) (hc0 : l0.length ≤ c0) (hr1 : Kd.C k37 w A1 l1.length l1) (hc1 : l1.length ≤ c1) (h : errataref20_Same.f k l0 l1 = some r) :
    Calls Try.prog 11 #[.slice A0 l0.length c0, .slice A1 l1.length c1] w fun e w' => e = .returned (.bool r) ∧ Drawn0 w w' := by
  have hu37 := Try.underlying37
  have HR0 := Aside0.mk hr0
  have HC0 := Aside0.mk hc0
  clear hr0 hc0
  have HR1 := Aside0.mk hr1
  have HC1 := Aside0.mk hc1
  clear hr1 hc1
  have H : (if (l0.length : Int) = (l1.length : Int) then (errataref20_Same.l0 k l0 l1 0) else (some false)) = some r := h
  clear h
  by_cases c3 : (l0.length : Int) = (l1.length : Int)
  · rw [if_pos c3] at H
    have c3b0 : ((l0.length : Int) == (l1.length : Int)) = true := beq_iff_eq.mpr c3
    have c3b1 : ((l0.length : Int) != (l1.length : Int)) = false := bne_eq_false_iff_eq.mpr c3
    have c3b2 : (l0.length == l1.length) = true := by first | simpa using c3 | (simp at c3 ⊢; omega)
    clear c3
    have H' := Aside0.mk H
    clear H
    go_enter Try.func11, Try.ntmps11
    go_wp2
    repeat (go_quiet (fail); try go_wp2)
    go_loopg [5] k (fun kq v5 w' => ∃ (x5_1 : Int), v5 = .int .i64 x5_1 ∧ Aside0 (errataref20_Same.l0 kq l0 l1 x5_1 = some r) ∧ Aside0 (kq ≤ k) ∧ Drawn0 w w')
    case atStart => exact ⟨(0), (by first | rfl | (simp; done) | (simp [*]; done)), H', ⟨Nat.le_refl _⟩, by repeat (first | exact Drawn0.refl _ | apply Drawn0.step)⟩
    case round =>
      clear H'
      try clear c1
      try clear p2
      try clear c3
      try clear c3b0
      try clear c3b1
      try clear c3b2
      obtain ⟨x5_1, rfl, HA, HK1, ⟨m1, rfl⟩⟩ := hrel
      cases gk with
      | zero => exact absurd HA.out (by simp [errataref20_Same.l0])
      | succ k1 =>
        have H := HA.out
        clear HA
        simp only [errataref20_Same.l0] at H
        by_cases c4 : x5_1 < (l0.length : Int)
        · rw [if_pos c4] at H
          have c4b0 : decide (x5_1 < (l0.length : Int)) = true := decide_eq_true c4
          clear c4
          by_cases c5 : 0 ≤ x5_1
          · rw [if_pos c5] at H
            have c5b0 : decide (0 ≤ x5_1) = true := decide_eq_true c5
            clear c5
            by_cases c6 : x5_1 < (l1.length : Int)
            · rw [if_pos c6] at H
              have c6b0 : decide (x5_1 < (l1.length : Int)) = true := decide_eq_true c6
              clear c6
              by_cases c7 : (!(((rd_T37 l0 x5_1).f0) == ((rd_T37 l1 x5_1).f0)) || (!(((rd_T37 l0 x5_1).f1) == ((rd_T37 l1 x5_1).f1)) || (!(((rd_T37 l0 x5_1).f2) == ((rd_T37 l1 x5_1).f2)) || (!(((rd_T37 l0 x5_1).f3) == ((rd_T37 l1 x5_1).f3)))))) = true
              · rw [if_pos c7] at H
                have c7b0 : (!(((rd_T37 l0 x5_1).f0) == ((rd_T37 l1 x5_1).f0)) || (!(((rd_T37 l0 x5_1).f1) == ((rd_T37 l1 x5_1).f1)) || (!(((rd_T37 l0 x5_1).f2) == ((rd_T37 l1 x5_1).f2)) || (!(((rd_T37 l0 x5_1).f3) == ((rd_T37 l1 x5_1).f3)))))) = true := c7
                clear c7
                obtain rfl := Option.some.inj H
                have p191 : 0 ≤ (x5_1 : Int) := of_decide_eq_true (by first | (with_reducible assumption) | assumption)
                have q191 : x5_1 < (l0.length : Int) := of_decide_eq_true (by first | (with_reducible assumption) | assumption)
                obtain ⟨ad191, e191, hx191_0, hx191_1, hx191_2, hx191_3⟩ := at_T37 HR0.out x5_1 p191 q191
                cases e191
                replace p191 := eq_true p191
                replace q191 := eq_true q191
                have p192 : 0 ≤ (x5_1 : Int) := of_decide_eq_true (by first | (with_reducible assumption) | assumption)
                have q192 : x5_1 < (l1.length : Int) := of_decide_eq_true (by first | (with_reducible assumption) | assumption)
                obtain ⟨ad192, e192, hx192_0, hx192_1, hx192_2, hx192_3⟩ := at_T37 HR1.out x5_1 p192 q192
                cases e192
                replace p192 := eq_true p192
                replace q192 := eq_true q192
                go_wp2
                repeat (go_quiet (fail); try go_wp2)
                go_ret
                exact ⟨by first | rfl | (simp; done) | (simp [*]; done), by repeat (first | exact Drawn0.refl _ | apply Drawn0.step)⟩
              · rw [if_neg c7] at H
                have c7b0 : (!(((rd_T37 l0 x5_1).f0) == ((rd_T37 l1 x5_1).f0)) || (!(((rd_T37 l0 x5_1).f1) == ((rd_T37 l1 x5_1).f1)) || (!(((rd_T37 l0 x5_1).f2) == ((rd_T37 l1 x5_1).f2)) || (!(((rd_T37 l0 x5_1).f3) == ((rd_T37 l1 x5_1).f3)))))) = false := by simpa using c7
                clear c7
                have H' := Aside0.mk H
                clear H
                have p191 : 0 ≤ (x5_1 : Int) := of_decide_eq_true (by first | (with_reducible assumption) | assumption)
                have q191 : x5_1 < (l0.length : Int) := of_decide_eq_true (by first | (with_reducible assumption) | assumption)
                obtain ⟨ad191, e191, hx191_0, hx191_1, hx191_2, hx191_3⟩ := at_T37 HR0.out x5_1 p191 q191
                cases e191
                replace p191 := eq_true p191
                replace q191 := eq_true q191
                have p192 : 0 ≤ (x5_1 : Int) := of_decide_eq_true (by first | (with_reducible assumption) | assumption)
                have q192 : x5_1 < (l1.length : Int) := of_decide_eq_true (by first | (with_reducible assumption) | assumption)
                obtain ⟨ad192, e192, hx192_0, hx192_1, hx192_2, hx192_3⟩ := at_T37 HR1.out x5_1 p192 q192
                cases e192
                replace p192 := eq_true p192
                replace q192 := eq_true q192
                go_wp2
                repeat (go_quiet (fail); try go_wp2)
                go_roundg k1
                case measure => have := HK1.out; omega
                case rel => exact ⟨(wrap64 (x5_1 + 1)), (by first | rfl | (simp; done) | (simp [*]; done)), H', ⟨by have := HK1.out; omega⟩, by repeat (first | exact Drawn0.refl _ | apply Drawn0.step)⟩
            · rw [if_neg c6] at H
              exact absurd H (by simp)
          · rw [if_neg c5] at H
            exact absurd H (by simp)
        · rw [if_neg c4] at H
          have c4b0 : decide (x5_1 < (l0.length : Int)) = false := decide_eq_false c4
          clear c4
          obtain rfl := Option.some.inj H
          go_wp2
          repeat (go_quiet (fail); try go_wp2)
          go_ret
          exact ⟨by first | rfl | (simp; done) | (simp [*]; done), by repeat (first | exact Drawn0.refl _ | apply Drawn0.step)⟩
  · rw [if_neg c3] at H
    have c3b0 : ((l0.length : Int) == (l1.length : Int)) = false := beq_eq_false_iff_ne.mpr c3
    have c3b1 : ((l0.length : Int) != (l1.length : Int)) = true := bne_iff_ne.mpr c3
    have c3b2 : (l0.length == l1.length) = false := by first | simpa using c3 | (simp at c3 ⊢; omega)
    obtain rfl := Option.some.inj H
    go_enter Try.func11, Try.ntmps11
    go_wp2
    repeat (go_quiet (fail); try go_wp2)
    go_ret
    exact ⟨by first | rfl | (simp; done) | (simp [*]; done), by repeat (first | exact Drawn0.refl _ | apply Drawn0.step)⟩

end Go.Proofs.Yteoljddobfnfiaa.PB
end
