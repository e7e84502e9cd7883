/- erratalaw20.BoundsPaths returns true and leaves its arguments as they were, whatever they are. No condition. -/
import Derived.Test.YteoljddobfnfiaaKA6
import Derived.Deep.Slices
import Derived.ChangeArms
import Derived.WideShapes
import Derived.ProofKit
import Derived.OpenShut
import Derived.ShutString
import Derived.ChangeOld
import Derived.SizedLaws
import Derived.Test.YteoljddobfnfiaaRows
section
namespace Go.Proofs.Yteoljddobfnfiaa.My
open Go.RowKit Go.Proofs.YteoljddobfnfiaaW.PrintWords

def OpensAt (P : Program) (t : TypeId) {α : Type} (d : Kd α) (good : α → Prop) (n : Nat) : Prop :=
  ∀ (H : Type) (enc : TypeId × Value → H) (w : World) (sp : Nat → Bool) (held : Bool) (cs : List Value) (x : DataW H × List MemPlace),
    DataW.trod enc P w 0 sp held n t cs = some x → ∃ a : α, d.K w a cs ∧ good a

theorem opens_int {P : Program} {t : TypeId} {k : IntKind} (ht : P.underlying t = some (.int k)) (n : Nat) : OpensAt P t (Kd.int k) (fun a => (Lit.int k a).wf = true) n := by
  intro H enc w sp held cs x h
  cases n with
  | zero => simp [DataW.trod] at h
  | succ n =>
    unfold DataW.trod at h
    rw [ht] at h
    split at h <;> simp_all
    obtain ⟨⟨rfl, hw⟩, rfl⟩ := h
    exact ⟨_, rfl, hw⟩
theorem opens_string {P : Program} {t : TypeId} (ht : P.underlying t = some .string) (n : Nat) : OpensAt P t Kd.string (fun s => s.size ≤ 9223372036854775807) n := by
  intro H enc w sp held cs x h
  cases n with
  | zero => simp [DataW.trod] at h
  | succ n =>
    unfold DataW.trod at h
    rw [ht] at h
    split at h <;> simp_all
    obtain ⟨hs, rfl⟩ := h
    exact ⟨_, rfl, hs⟩

theorem choose_list {α : Type} {p : Nat → α → Prop} : ∀ n : Nat, (∀ i, i < n → ∃ y, p i y) → ∃ l : List α, l.length = n ∧ ∀ i y, l[i]? = some y → p i y
  | 0, _ => ⟨[], rfl, fun i y h => by simp at h⟩
  | n + 1, h => by
    obtain ⟨l, hl, hp⟩ := choose_list n (fun i hi => h i (by omega))
    obtain ⟨y, hy⟩ := h n (by omega)
    refine ⟨l ++ [y], by simp [hl], fun i z hz => ?_⟩
    rcases Nat.lt_or_ge i n with hi | hi
    · rw [List.getElem?_append_left (by omega)] at hz
      exact hp i z hz
    · rw [List.getElem?_append_right (by omega)] at hz
      rcases Nat.eq_or_lt_of_le hi with rfl | hi
      · simp [hl] at hz
        subst hz
        exact hy
      · rw [List.getElem?_eq_none (by simp; omega)] at hz
        cases hz

theorem opens_slice {P : Program} {t e : TypeId} {α : Type} {d : Kd α} {good : α → Prop} (ht : P.underlying t = some (.slice e)) (hs : P.cellsOf e = d.sz) {n : Nat} (hd : ∀ m, m < n → OpensAt P e d good m) :
    OpensAt P t (Kd.slice e d) (fun xs => xs.length ≤ 9223372036854775807 ∧ ∀ a ∈ xs, good a) n := by
  intro H enc w sp held cs x h
  rcases DataW.trod_slice ht h with ⟨rfl, _⟩ | ⟨a, len, cap, elems, rest, m, rfl, rfl, _, _, hl, hm, hlen, hel, _, _⟩
  · exact ⟨[], ⟨none, 0, rfl, Nat.le_refl _, rfl, Nat.zero_le _, fun h => absurd h (Nat.lt_irrefl 0)⟩, Nat.zero_le _, by simp⟩
  · have each : ∀ i, i < len → ∃ y : α, good y ∧ ∃ c, c.length = d.sz ∧ d.K w y c ∧ ∀ j u, c[j]? = some u → w.cell? (a.add (i * d.sz + j)) = some u := by
      intro i hi
      have h1 := hel i hi
      rw [List.getElem?_eq_getElem (by omega)] at h1
      obtain ⟨c, hc, hy⟩ := Option.bind_eq_some_iff.1 h1
      obtain ⟨y, hk, hg⟩ := hd m (Nat.lt_succ_self m) H enc w sp held c _ hy
      obtain ⟨_, hlc, hcell⟩ := World.cells?_some hc
      refine ⟨y, hg, c, d.K_len hk, hk, fun j u hj => ?_⟩
      have hjl : j < c.length := by
        rcases Nat.lt_or_ge j c.length with h | h
        · exact h
        · rw [List.getElem?_eq_none h] at hj; cases hj
      have hcj := hcell j (by omega)
      rw [hj] at hcj
      rw [hs] at hcj
      rw [← hcj, Addr.add_add]
    obtain ⟨l, hll, hf⟩ := choose_list len each
    have hmx : maxLen = 9223372036854775807 := rfl
    refine ⟨l, ⟨some a, cap, by rw [hll], by omega, rfl, by omega, fun _ => ⟨a, rfl, fun j p hp => (hf j p hp).2⟩⟩, by omega, fun y hy => ?_⟩
    obtain ⟨j, hj⟩ := List.getElem?_of_mem hy
    exact (hf j y hj).1

def FieldsAt (P : Program) (fs : List Field) (o : Nat) {α : Type} (d : Kd α) (good : α → Prop) (n : Nat) : Prop :=
  ∀ (H : Type) (enc : TypeId × Value → H) (w : World) (sp : Nat → Bool) (held : Bool) (cs : List Value) (xs : List (DataW H × List MemPlace)), cs.length = o + d.sz → xs.length = fs.length →
    (∀ (i : Nat) (f : Field), fs[i]? = some f → DataW.trod enc P w 0 sp held n f.type ((cs.drop f.offset).take (P.cellsOf f.type)) = xs[i]?) → ∃ a : α, d.K w a (cs.drop o) ∧ good a
theorem fields_one {P : Program} {f : Field} {o : Nat} {α : Type} {d : Kd α} {good : α → Prop} {n : Nat} (ho : f.offset = o) (hs : P.cellsOf f.type = d.sz) (h : OpensAt P f.type d good n) : FieldsAt P [f] o d good n := by
  intro H enc w sp held cs xs hl hx hf
  match xs, hx with
  | [y], _ =>
    have h0 := hf 0 f rfl
    simp only [List.getElem?_cons_zero] at h0
    rw [ho, hs, List.take_of_length_le (by simp; omega)] at h0
    exact h H enc w sp held _ _ h0
theorem fields_cons {P : Program} {f : Field} {fs : List Field} {o : Nat} {α β : Type} {d : Kd α} {d' : Kd β} {good : α → Prop} {good' : β → Prop} {n : Nat} (ho : f.offset = o) (hs : P.cellsOf f.type = d.sz)
    (h : OpensAt P f.type d good n) (hr : FieldsAt P fs (o + d.sz) d' good' n) : FieldsAt P (f :: fs) o (Kd.pair d d') (fun x => good x.1 ∧ good' x.2) n := by
  intro H enc w sp held cs xs hl hx hf
  match xs, hx with
  | y :: ys, hx =>
    have h0 := hf 0 f rfl
    simp only [List.getElem?_cons_zero] at h0
    rw [ho, hs] at h0
    obtain ⟨a, ha, ga⟩ := h H enc w sp held _ _ h0
    have hl' : cs.length = o + d.sz + d'.sz := by rw [hl]; show o + (d.sz + d'.sz) = _; omega
    obtain ⟨b, hb, gb⟩ := hr H enc w sp held cs ys hl' (by simpa using hx) (fun i g hg => by simpa using hf (i + 1) g (by simpa using hg))
    refine ⟨(a, b), ⟨(cs.drop o).take d.sz, cs.drop (o + d.sz), ?_, ha, hb⟩, ga, gb⟩
    rw [← List.drop_drop, List.take_append_drop]
theorem opens_struct {P : Program} {t : TypeId} {fs : Array Field} {α β : Type} {d : Kd α} {good : α → Prop} (f : β → α) (g : α → β) (hfg : ∀ x, f (g x) = x) (ht : P.underlying t = some (.struct fs)) (hs : P.cellsOf t = d.sz) {n : Nat}
    (hd : ∀ m, m < n → FieldsAt P fs.toList 0 d good m) : OpensAt P t (Kd.iso d f) (fun x => good (f x)) n := by
  intro H enc w sp held cs x h
  obtain ⟨xs, m, hm, _, hl, hlen, hf⟩ := DataW.trod_struct ht h
  subst hm
  obtain ⟨a, ha, ga⟩ := hd m (Nat.lt_succ_self m) H enc w sp held cs xs (by rw [hl, hs]; omega) (by simpa using hlen) (fun i y hy => hf i y (by simpa using hy))
  refine ⟨g a, ?_, ?_⟩
  · show d.K w (f (g a)) cs
    rw [hfg]
    simpa using ha
  · show good (f (g a))
    rw [hfg]
    exact ga
theorem opens_imp {P : Program} {t : TypeId} {α : Type} {d : Kd α} {good good' : α → Prop} {n : Nat} (h : OpensAt P t d good n) (hg : ∀ x, good x → good' x) : OpensAt P t d good' n := by
  intro H enc w sp held cs x hx
  obtain ⟨a, ha, ga⟩ := h H enc w sp held cs x hx
  exact ⟨a, ha, hg a ga⟩
end Go.Proofs.Yteoljddobfnfiaa.My
end
section
namespace Go.Proofs.Yteoljddobfnfiaa.My
open Go.RowKit Go.WideShapes Go.Proofs.YteoljddobfnfiaaW.PrintWords Go.Proofs.Yteoljddobfnfiaa.PB
set_option linter.unusedVariables false
set_option linter.unusedSimpArgs false

theorem open_i (n : Nat) : OpensAt Try.prog 3 (Kd.int .i64) (fun a => (Lit.int .i64 a).wf = true) n := opens_int Try.underlying3 n
theorem open_s (n : Nat) : OpensAt Try.prog 9 Kd.string (fun s => s.size ≤ 9223372036854775807) n := opens_string (by kernel_rfl) n
theorem open38 (n : Nat) : OpensAt Try.prog 38 (Kd.slice 3 (Kd.int .i64)) (fun xs => xs.length ≤ 9223372036854775807 ∧ ∀ a ∈ xs, (Lit.int .i64 a).wf = true) n := opens_slice Try.underlying38 (by kernel_rfl) (fun m _ => open_i m)
theorem open50 (n : Nat) : OpensAt Try.prog 50 k50 (fun _ => True) n :=
  opens_imp (opens_struct (fun x : S50 => (x.f0, x.f1, x.f2)) (fun p => ⟨p.1, p.2.1, p.2.2⟩) (fun _ => rfl) Try.underlying50 (by kernel_rfl)
    (fun m _ => fields_cons rfl (by kernel_rfl) (open_s m) (fields_cons rfl (by kernel_rfl) (open_i m) (fields_one rfl (by kernel_rfl) (open_s m))))) (fun _ _ => trivial)
theorem open97 (n : Nat) : OpensAt Try.prog 97 k97 (fun _ => True) n :=
  opens_imp (opens_struct (fun x : S97 => (x.f0, x.f1, x.f2)) (fun p => ⟨p.1, p.2.1, p.2.2⟩) (fun _ => rfl) Try.underlying97 (by kernel_rfl)
    (fun m _ => fields_cons rfl (by kernel_rfl) (open_i m) (fields_cons rfl (by kernel_rfl) (open_i m) (fields_one rfl (by kernel_rfl) (open_s m))))) (fun _ _ => trivial)
theorem open93 (n : Nat) : OpensAt Try.prog 93 k93 (fun _ => True) n := by
  induction n using Nat.strongRecOn with
  | _ n ih =>
    have h : OpensAt Try.prog 93 (F93 k93) (fun _ => True) n :=
      opens_imp (opens_struct (fun x : S93 => (x.f0, x.f1, x.f2, x.f3)) (fun p => ⟨p.1, p.2.1, p.2.2.1, p.2.2.2⟩) (fun _ => rfl) Try.underlying93 (by kernel_rfl)
        (fun m hm => fields_cons rfl (by kernel_rfl) (open_i m) (fields_cons rfl (by kernel_rfl) (open_i m) (fields_cons rfl (by kernel_rfl) (open_s m)
          (fields_one rfl (by kernel_rfl) (opens_slice (t := 39) (e := 93) (d := k93) (good := fun _ => True) (by kernel_rfl) (by kernel_rfl) (fun j hj => ih j (by omega)))))))) (fun _ _ => trivial)
    intro H enc w sp held cs x hx
    obtain ⟨a, ⟨c0, r0, rfl, rfl, c1, r1, rfl, rfl, c2, r2, rfl, rfl, A, c, rfl, l, g⟩, _⟩ := h H enc w sp held cs x hx
    exact ⟨a, k93_mk w a l g, trivial⟩
theorem open99 (n : Nat) : OpensAt Try.prog 99 k99 (fun _ => True) n :=
  opens_imp (opens_struct (fun x : S99 => (x.f0, x.f1)) (fun p => ⟨p.1, p.2⟩) (fun _ => rfl) Try.underlying99 (by kernel_rfl)
    (fun m _ => fields_cons rfl (by kernel_rfl) (open93 m) (fields_one rfl (by kernel_rfl) (open_i m)))) (fun _ _ => trivial)
theorem open95 (n : Nat) : OpensAt Try.prog 95 k95 (fun _ => True) n :=
  opens_imp (opens_struct (fun x : S95 => (x.f0, x.f1, x.f2, x.f3)) (fun p => ⟨p.1, p.2.1, p.2.2.1, p.2.2.2⟩) (fun _ => rfl) Try.underlying95 (by kernel_rfl)
    (fun m _ => fields_cons rfl (by kernel_rfl) (open_s m) (fields_cons rfl (by kernel_rfl) (open38 m) (fields_cons rfl (by kernel_rfl) (open_i m) (fields_one rfl (by kernel_rfl) (open93 m)))))) (fun _ _ => trivial)
def good44 (x : S44) : Prop := x.f1.length ≤ 9223372036854775807 ∧ x.f14.length ≤ 9223372036854775807 ∧ x.f15.length ≤ 9223372036854775807 ∧ (Lit.int .i64 x.f0).wf = true ∧ (Lit.int .i64 x.f5).wf = true ∧ (Lit.int .i64 x.f6).wf = true ∧ (Lit.int .i64 x.f7).wf = true ∧ (Lit.int .i64 x.f10).wf = true ∧ (Lit.int .i64 x.f11).wf = true ∧ (Lit.int .i64 x.f12).wf = true
theorem open_sl {e s : TypeId} {α : Type} {d : Kd α} {good : α → Prop} (ht : Try.prog.underlying s = some (.slice e)) (hs : Try.prog.cellsOf e = d.sz) (h : ∀ n, OpensAt Try.prog e d good n) (n : Nat) : OpensAt Try.prog s (Kd.slice e d) (fun xs => xs.length ≤ 9223372036854775807 ∧ ∀ a ∈ xs, good a) n := opens_slice ht hs (fun m _ => h m)
theorem open44 (n : Nat) : OpensAt Try.prog 44 k44 good44 n :=
  opens_imp (opens_struct (fun x : S44 => (x.f0, x.f1, x.f2, x.f3, x.f4, x.f5, x.f6, x.f7, x.f8, x.f9, x.f10, x.f11, x.f12, x.f13, x.f14, x.f15))
      (fun ⟨p0, p1, p2, p3, p4, p5, p6, p7, p8, p9, p10, p11, p12, p13, p14, p15⟩ => ⟨p0, p1, p2, p3, p4, p5, p6, p7, p8, p9, p10, p11, p12, p13, p14, p15⟩) (fun _ => rfl) Try.underlying44 (by kernel_rfl)
    (fun m _ => fields_cons rfl (by kernel_rfl) (open_i m) <| fields_cons rfl (by kernel_rfl) (open38 m) <| fields_cons rfl (by kernel_rfl) (open_s m) <| fields_cons rfl (by kernel_rfl) (open_i m) <|
      fields_cons rfl (by kernel_rfl) (open_sl (e := 93) (d := k93) (by kernel_rfl) (by kernel_rfl) open93 m) <| fields_cons rfl (by kernel_rfl) (open_i m) <| fields_cons rfl (by kernel_rfl) (open_i m) <| fields_cons rfl (by kernel_rfl) (open_i m) <|
      fields_cons rfl (by kernel_rfl) (open38 m) <| fields_cons rfl (by kernel_rfl) (open38 m) <| fields_cons rfl (by kernel_rfl) (open_i m) <| fields_cons rfl (by kernel_rfl) (open_i m) <| fields_cons rfl (by kernel_rfl) (open_i m) <|
      fields_cons rfl (by kernel_rfl) (open_sl (e := 97) (d := k97) (by kernel_rfl) (by kernel_rfl) open97 m) <| fields_cons rfl (by kernel_rfl) (open_sl (e := 99) (d := k99) (by kernel_rfl) (by kernel_rfl) open99 m) <|
      fields_one rfl (by kernel_rfl) (open_sl (e := 50) (d := k50) (by kernel_rfl) (by kernel_rfl) open50 m)))
    (fun x ⟨h0, h1, h2, h3, h4, h5, h6, h7, h8, h9, h10, h11, h12, h13, h14, h15⟩ => ⟨h1.1, h14.1, h15.1, h0, h5, h6, h7, h10, h11, h12⟩)

theorem open_plan {H : Type} {enc : TypeId × Value → H} {w : World} {sp : Nat → Bool} {held : Bool} {r : Reach} {b0 : Nat} {v : Value} {d : DataW H} {p : List MemPlace}
    (hv : Value.okWide Try.prog w r b0 25 v) (h : DataW.Trod enc Try.prog w 0 sp held 25 v d p) :
    ∃ (A0 : Option Addr) (c0 : Nat) (F : List S95) (A1 : Option Addr) (c1 : Nat) (l : List S44), v = .agg #[.slice A0 F.length c0, .slice A1 l.length c1] ∧ Kd.C k95 w A0 F.length F ∧ F.length ≤ c0 ∧ Kd.C k44 w A1 l.length l ∧ l.length ≤ c1 ∧
      l.length ≤ 9223372036854775807 ∧ ∀ n ∈ l, good44 n := by
  obtain ⟨cs, rfl, hsz⟩ := okWide_struct Try.underlying25 hv
  obtain ⟨fuel, hf⟩ := h
  have ho : OpensAt Try.prog 25 (Kd.iso (Kd.pair (Kd.slice 95 k95) (Kd.slice 44 k44)) (fun x => x)) (fun x => (x.1.length ≤ 9223372036854775807 ∧ ∀ a ∈ x.1, True) ∧ x.2.length ≤ 9223372036854775807 ∧ ∀ a ∈ x.2, good44 a) fuel :=
    opens_struct (fun x => x) (fun p => p) (fun _ => rfl) Try.underlying25 (by kernel_rfl) (fun m _ => fields_cons rfl (by kernel_rfl) (open_sl (e := 95) (d := k95) (by kernel_rfl) (by kernel_rfl) open95 m) (fields_one rfl (by kernel_rfl) (open_sl (e := 44) (d := k44) (by kernel_rfl) (by kernel_rfl) open44 m)))
  obtain ⟨⟨F, l⟩, ⟨q0, q1, hq, ⟨A0, c0, rfl, l0, g0⟩, ⟨A1, c1, rfl, l1, g1⟩⟩, h1, h2, h3⟩ := ho H enc w sp held _ _ hf
  refine ⟨A0, c0, F, A1, c1, l, ?_, g0, l0, g1, l1, h2, h3⟩
  obtain ⟨cs⟩ := cs
  simp only [Value.cells] at hq
  subst hq
  rfl
theorem open_six {H : Type} {enc : TypeId × Value → H} {w : World} {sp : Nat → Bool} {held : Bool} {r : Reach} {b0 : Nat} {v : Value} {d : DataW H} {p : List MemPlace}
    (hv : Value.okWide Try.prog w r b0 27 v) (h : DataW.Trod enc Try.prog w 0 sp held 27 v d p) :
    ∃ a0 a1 a2 a3 a4 a5 : Int, v = .agg #[.int .i64 a0, .int .i64 a1, .int .i64 a2, .int .i64 a3, .int .i64 a4, .int .i64 a5] := by
  obtain ⟨cs, rfl, hsz⟩ := okWide_struct Try.underlying27 hv
  obtain ⟨fuel, hf⟩ := h
  have ho := opens_struct (d := Kd.pair (Kd.int .i64) (Kd.pair (Kd.int .i64) (Kd.pair (Kd.int .i64) (Kd.pair (Kd.int .i64) (Kd.pair (Kd.int .i64) (Kd.int .i64)))))) (fun x => x) (fun p => p) (fun _ => rfl) Try.underlying27 (by kernel_rfl) (n := fuel)
    (fun m _ => fields_cons rfl (by kernel_rfl) (open_i m) <| fields_cons rfl (by kernel_rfl) (open_i m) <| fields_cons rfl (by kernel_rfl) (open_i m) <| fields_cons rfl (by kernel_rfl) (open_i m) <| fields_cons rfl (by kernel_rfl) (open_i m) <| fields_one rfl (by kernel_rfl) (open_i m))
  obtain ⟨⟨a0, a1, a2, a3, a4, a5⟩, ⟨q0, r0, h0, rfl, q1, r1, rfl, rfl, q2, r2, rfl, rfl, q3, r3, rfl, rfl, q4, r4, rfl, rfl, rfl⟩, _⟩ := ho H enc w sp held _ _ hf
  refine ⟨a0, a1, a2, a3, a4, a5, ?_⟩
  obtain ⟨cs⟩ := cs
  simp only [Value.cells] at h0
  subst h0
  rfl
end Go.Proofs.Yteoljddobfnfiaa.My
namespace Go.Proofs.Yteoljddobfnfiaa.My
open Go.RowKit Go.WideShapes Go.Proofs.YteoljddobfnfiaaW.PrintWords Go.Proofs.Yteoljddobfnfiaa.PB
end Go.Proofs.Yteoljddobfnfiaa.My
end
section
namespace Go.Proofs.Yteoljddobfnfiaa.boundsPaths
open Go.ChangeShapes Go.WideShapes Go.ChangeAt Go.RowKit
set_option linter.unusedVariables false
theorem own : ownKnob Try.prog.godebug = none := by kernel_rfl
theorem laidOut : laidOutB Try.prog = true := by kernel_rfl
set_option maxRecDepth 100000 in
theorem lifted (os : Os) (started : os.Started) (H : Type) (enc : TypeId × Value → H) :
    ReturnsInHanded {} Try.checked os 3 .any (Rows.boundsPathsSpec.pre6 enc Try.prog Try.f3 Rows.boundsPathsRow.domain false) (Rows.boundsPathsSpec.post enc Try.prog Try.f3 false true false false) := by
  refine returnsInHanded_of_change_sized (C := Try.checked) own started (by kernel_rfl) Try.func3
    (ChangeSpec.witness6 (enc := enc) (C := Try.checked) false ⟨#[], #[.agg #[.slice none 0 0, .slice none 0 0], .agg #[.int .i64 0, .int .i64 0, .int .i64 0, .int .i64 0, .int .i64 0, .int .i64 0]], []⟩ 8 (by kernel_rfl) (by kernel_rfl) (by kernel_rfl) (by kernel_rfl)) ?_
  intro W base args ds gs before hval0 hW hcnd hsz0 _
  have hval : ∀ (j : Nat) t v, Try.f3.params[j]? = some t → args[j]? = some v → Value.okWide Try.prog W .any base t v := hval0
  have hW' := hW
  obtain ⟨p, q, hA0, hV, rfl, hfz, hnd⟩ := hW
  have hA : DataW.TrodAll enc Try.prog W 0 (fun _ => true) true Try.f3.params.toList args.toList ds p := hA0
  rw [Try.params3] at hA hval
  obtain ⟨v0, vs0, d0, ds0, p0, q0, hargs, rfl, rfl, h0, r0⟩ := trodAll_cons hA
  obtain ⟨v1, vs1, d1, ds1, p1, q1, rfl, rfl, rfl, h1, r1⟩ := trodAll_cons r0
  obtain ⟨rfl, rfl, rfl⟩ := trodAll_nil r1
  obtain rfl : args = #[v0, v1] := by cases args; simp_all
  obtain ⟨rfl, rfl⟩ := trodVars_none hV
  have lt0 : ∀ x ∈ p0, x.block < W.heap.size := by obtain ⟨m, hm⟩ := h0; exact DataW.trod_lt m _ _ _ hm
  have lt1 : ∀ x ∈ p1, x.block < W.heap.size := by obtain ⟨m, hm⟩ := h1; exact DataW.trod_lt m _ _ _ hm
  obtain ⟨A0, c0, F, A1, c1, l, rfl, g0, k0, g1, k1, hl, hg⟩ := My.open_plan (hval 0 25 v0 rfl rfl) h0
  obtain ⟨a0, a1, a2, a3, a4, a5, rfl⟩ := My.open_six (hval 1 27 v1 rfl rfl) h1
  clear hA0 hval0 hsz0
  obtain ⟨k, hk⟩ := Pure.Paths_true l F hl (fun n hn => (hg n hn).1) a0 a1 a2 a3 a4 a5
  refine (PB.erratalaw20_BoundsPaths.calls k A0 c0 F A1 c1 l a0 a1 a2 a3 a4 a5 W g0 k0 g1 k1 hk).mono fun e W' ⟨he, bel⟩ => ?_
  subst he
  exact ⟨_, rfl, _, _, _, [], _, [], hW', trodAll_mk1 (shut_bool Try.underlying4 _), (trodAll_cons_mk (Below.trod laidOut (by kernel_rfl) (of_decide_eq_true (by kernel_rfl)) h0 bel lt0) (trodAll_cons_mk (Below.trod laidOut (by kernel_rfl) (of_decide_eq_true (by kernel_rfl)) h1 bel lt1) trodAll_mk0)), rfl, bel.frame _, fun h => by cases h⟩
theorem over : Rows.boundsPathsRow.holds Try.pinned (OpenSpec.ofChange Rows.boundsPathsSpec) :=
  OpenClaim.holds_of_wide 3 Try.f3 rfl rfl rfl rfl rfl rfl rfl ⟨rfl, rfl, rfl, rfl, rfl⟩ rfl rfl rfl rfl rfl (by kernel_rfl) Try.func3 (by kernel_rfl)
    (of_decide_eq_true (by kernel_rfl)) (by unfold Func.isWrapper; first | (rw [if_pos (by decide +kernel)]; kernel_rfl) | (rw [if_neg (by decide +kernel)]; exact ⟨rfl, rfl⟩))
    (fun os started H enc _ => lifted os started H enc)
theorem proved : Rows.BoundsPathsSaid := over
#print axioms proved
end Go.Proofs.Yteoljddobfnfiaa.boundsPaths
namespace Go.Proofs.Yteoljddobfnfiaa
theorem boundsPaths_holds : Rows.BoundsPathsSaid := boundsPaths.proved
end Go.Proofs.Yteoljddobfnfiaa
end
