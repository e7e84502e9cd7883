/- Part 3 of a proof: texts of this claim, joined by a program of this session's work; what is proved stands in the last part. No condition. -/
import Derived.Test.YtmpbpgbhohefeaaSA2
import Derived.Test.YtmpbpgbhohefeaaChecked
import Derived.DeepKeys4
import Derived.Maps.Ext
import Derived.Maps.OwnSet
import Derived.Maps.RangeWalk
import Derived.WideKeyEntry
import Derived.Shelf.SlIter.Collect
import Derived.Lib.Bytealg
import Derived.Lib.Small
import Derived.Sort.Statements
import Derived.Lib.Strings
import Derived.Lib.Slices
import Derived.Lib.Walk
import Derived.Sort.Grow
import Derived.Sort.Row
import Derived.Shelf.SlSortCmp.NoneTotal
import Derived.Shelf.SlicesQ.IndexFunc
import Derived.Shelf.SlicesE.Clone
import Derived.Shelf.SlicesE.IndexFunc
import Derived.RangeFuncBound
section
namespace Go.Proofs.Ytmpbpgbhohefeaa.Ag
open Go.RowKit Go.Maps

structure V where
  k : Int
  n : Int
  s : ByteArray
  hk : (Lit.int .i64 k).wf = true
  hn : (Lit.int .i64 n).wf = true
  hs : s.size ≤ maxLen
theorem V.ext' {a b : V} (h1 : a.k = b.k) (h2 : a.n = b.n) (h3 : a.s = b.s) : a = b := by cases a; cases b; simp at h1 h2 h3; subst h1 h2 h3; rfl
instance : Inhabited V := ⟨⟨0, 0, ⟨#[]⟩, by decide, by decide, by decide⟩⟩
def cells (v : V) : List Value := [.int .i64 v.k, .int .i64 v.n, .string v.s]
abbrev encV (v : V) : Value := .agg #[.int .i64 v.k, .int .i64 v.n, .string v.s]
theorem encV_inj {a b : V} (h : encV a = encV b) : a = b := by
  simp [encV] at h
  exact V.ext' h.1 h.2.1 h.2.2
noncomputable instance : DecidableEq V := fun _ _ => Classical.propDecidable _

theorem laidOut : laidOutB Try.prog = true := by kernel_rfl
theorem keyT : Try.prog.keyTypeAt 2 43 = true := by kernel_rfl
theorem KL : WideMaps.KeyLaw Try.prog 43 := deep_law_laid laidOut (m := 2) (by omega) (of_decide_eq_true (by kernel_rfl)) keyT (by kernel_rfl)
theorem KV : Keyed Try.prog 43 := Keyed.of_law KL
def kb (v : V) : List UInt8 := keyBytes [.int .i64 v.k, .int .i64 v.n, .string v.s.data.toList]
theorem types_size : ∃ n, Try.prog.types.size = n + 1 := ⟨Try.prog.types.size - 1, by have : 0 < Try.prog.types.size := of_decide_eq_true (by kernel_rfl); omega⟩
theorem keyLits_int {d : Nat} {v : Value} {ls : List Lit} : Try.prog.keyLits (d + 1) 3 [v] = some ls ↔ ∃ x, v = .int .i64 x ∧ (Lit.int .i64 x).wf = true ∧ ls = [.int .i64 x] := by
  unfold Program.keyLits
  rw [Try.underlying3]
  cases v <;> simp
  rename_i q n
  constructor
  · rintro ⟨⟨rfl, h⟩, rfl⟩; exact ⟨n, ⟨rfl, rfl⟩, h, rfl⟩
  · rintro ⟨x, ⟨rfl, rfl⟩, h, rfl⟩; exact ⟨⟨rfl, h⟩, rfl⟩
theorem keyLits_str {d : Nat} {v : Value} {ls : List Lit} : Try.prog.keyLits (d + 1) 9 [v] = some ls ↔ ∃ s : ByteArray, v = .string s ∧ s.size ≤ maxLen ∧ ls = [.string s.data.toList] := by
  unfold Program.keyLits
  rw [Try.underlying9]
  cases v <;> simp
  exact fun _ => eq_comm
theorem cellsI : Try.prog.cellsOf 3 = 1 := by kernel_rfl
theorem cellsS : Try.prog.cellsOf 9 = 1 := by kernel_rfl
theorem cellsV : Try.prog.cellsOf 43 = 3 := by kernel_rfl
theorem keyType : Try.prog.keyType 43 = true := by kernel_rfl
theorem keyLits_V {d : Nat} {a b c : Value} {ls : List Lit} : Try.prog.keyLits (d + 2) 43 [a, b, c] = some ls ↔ ∃ x, Try.prog.keyLits (d + 1) 3 [a] = some x ∧ ∃ y, Try.prog.keyLits (d + 1) 3 [b] = some y ∧ ∃ z, Try.prog.keyLits (d + 1) 9 [c] = some z ∧ x ++ (y ++ z) = ls := by
  conv => lhs; unfold Program.keyLits
  rw [Try.underlying43]
  generalize Try.prog.keyLits (d + 1) = f
  simp [cellsV, cellsI, cellsS]
  cases h1 : f 3 [a] <;> cases h2 : f 3 [b] <;> cases h3 : f 9 [c] <;> simp
theorem list3 {α : Type} : ∀ {l : List α}, l.length = 3 → ∃ a b c, l = [a, b, c]
  | [a, b, c], _ => ⟨a, b, c, rfl⟩
  | [], h => by simp at h
  | [_], h => by simp at h
  | [_, _], h => by simp at h
  | _ :: _ :: _ :: _ :: _, h => by simp at h
theorem keyOf_inv {key : Value} {kl : Lit} (h : keyOf Try.prog 43 key = some kl) : ∃ v : V, key = encV v ∧ kl = .string (kb v) := by
  unfold keyOf at h
  rw [Try.underlying43] at h
  simp only at h
  by_cases hf0 : (Try.prog.keyType 43 && key.formed Try.prog 43) = true
  · rw [if_pos hf0] at h
    rw [Bool.and_eq_true] at hf0
    have hf := hf0.2
    obtain ⟨n, hn⟩ := types_size
    rw [hn] at h
    obtain ⟨ls, hls, rfl⟩ := Option.map_eq_some_iff.1 h
    cases key <;> simp [Value.formed, Try.underlying43] at hf
    rename_i cs
    rw [cellsV] at hf
    obtain ⟨cs⟩ := cs
    simp only [Value.cells] at hls
    have hl : cs.length = 3 := by simpa using hf
    obtain ⟨a, b, c, rfl⟩ := list3 hl
    obtain ⟨x, hx, y, hy, z, hz, rfl⟩ := keyLits_V.1 hls
    obtain ⟨x, rfl, wx, rfl⟩ := keyLits_int.1 hx
    obtain ⟨y, rfl, wy, rfl⟩ := keyLits_int.1 hy
    obtain ⟨z, rfl, wz, rfl⟩ := keyLits_str.1 hz
    exact ⟨⟨x, y, z, wx, wy, wz⟩, rfl, rfl⟩
  · rw [if_neg hf0] at h; cases h
theorem keyOf_enc (v : V) : keyOf Try.prog 43 (encV v) = some (.string (kb v)) := by
  unfold keyOf
  rw [Try.underlying43]
  simp only
  rw [if_pos (by rw [keyType]; simp [Value.formed, Try.underlying43, cellsV])]
  obtain ⟨n, hn⟩ := types_size
  rw [hn]
  have h : Try.prog.keyLits (n + 2) 43 [.int .i64 v.k, .int .i64 v.n, .string v.s] = some [.int .i64 v.k, .int .i64 v.n, .string v.s.data.toList] :=
    keyLits_V.2 ⟨_, keyLits_int.2 ⟨v.k, rfl, v.hk, rfl⟩, _, keyLits_int.2 ⟨v.n, rfl, v.hn, rfl⟩, _, keyLits_str.2 ⟨v.s, rfl, v.hs, rfl⟩, rfl⟩
  show (Try.prog.keyLits (n + 2) 43 [.int .i64 v.k, .int .i64 v.n, .string v.s]).map (fun ls => Lit.string (keyBytes ls)) = _
  rw [h]
  rfl
theorem kb_inj {a b : V} (h : kb a = kb b) : a = b := encV_inj (KV.inj (keyOf_enc a) (h ▸ keyOf_enc b))

def Bag (w : World) (b n : Nat) (f : V → Int) : Prop :=
  ∃ D : DataW Unit, w.ownsMap Try.prog 43 (plainElem Try.prog 3) b n D ∧ (∀ v, D.atKey (.string (kb v)) (.lit (.int .i64 0)) = .lit (.int .i64 (f v))) ∧ (∀ v, has D (.string (kb v)) = true ↔ f v ≠ 0)

theorem Bag.lt {w : World} {b n : Nat} {f : V → Int} (h : Bag w b n f) : b < w.heap.size := by obtain ⟨D, h, _⟩ := h; exact h.lt
theorem Bag.same {w w1 : World} {b n : Nat} {f : V → Int} (h : Bag w b n f) (hb : w1.heap[b]? = w.heap[b]?) : Bag w1 b n f := by
  obtain ⟨D, ⟨es, clock, h0, h1⟩, h2⟩ := h
  exact ⟨D, ⟨es, clock, hb.trans h0, h1⟩, h2⟩
theorem Bag.below {w w1 : World} {b n : Nat} {f : V → Int} (h : Bag w b n f) (hb : Below w.heap.size w w1) : Bag w1 b n f := h.same (hb.block b h.lt)
theorem Bag.made (w : World) : Bag (w.alloc (.map #[] 0)) w.heap.size 0 (fun _ => 0) :=
  ⟨.map [], World.ownsMap_made w _ _ _, fun v => rfl, fun v => by simp [has]⟩
theorem Bag.mono {w : World} {b n m : Nat} {f : V → Int} (h : Bag w b n f) (hm : n ≤ m) : Bag w b m f := by
  obtain ⟨D, h, r⟩ := h
  exact ⟨D, h.mono hm, r⟩
theorem Bag.obj {w : World} {b n : Nat} {f : V → Int} (h : Bag w b n f) : ∃ es clock, w.heap[b]? = some (.map es clock) := by
  obtain ⟨D, ⟨es, clock, h0, _⟩, _⟩ := h
  exact ⟨es, clock, h0⟩
theorem zeroI (w : World) : (zeroValue 3).run Try.prog w = .ok (.int .i64 0) w := Try.zeroValue3 w
theorem Bag.look {w : World} {b n : Nat} {f : V → Int} (h : Bag w b n f) (v : V) : (Instr.lookup 54 (.map (some b)) (encV v) false).run Try.prog w = .ok (.int .i64 (f v)) w := by
  obtain ⟨D, h, h1, _⟩ := h
  obtain ⟨c, hr, hc, _⟩ := h.lookup_int KV Try.underlying54 Try.underlying3 (zeroI w) (keyOf_enc v)
  rw [h1 v] at hc
  have : f v = c := by simpa using hc
  rw [hr, this]
theorem Bag.wf {w : World} {b n : Nat} {f : V → Int} (h : Bag w b n f) (v : V) : (Lit.int .i64 (f v)).wf = true := by
  obtain ⟨D, h, h1, _⟩ := h
  obtain ⟨c, hr, hc, hw⟩ := h.lookup_int KV Try.underlying54 Try.underlying3 (zeroI w) (keyOf_enc v)
  rw [h1 v] at hc
  have : f v = c := by simpa using hc
  rw [this]; exact hw
noncomputable def set (f : V → Int) (v : V) (c : Int) : V → Int := fun u => if u = v then c else f u
theorem isKey (v : V) : WideAt.IsKeyLit (.string (kb v)) := KV.key (keyOf_enc v)
theorem kb_ne {a b : V} (h : a ≠ b) : Lit.string (kb a) ≠ Lit.string (kb b) := fun e => h (kb_inj (by simpa using e))
theorem World.ownsMap.isMap_ {w : World} {b n : Nat} {D : DataW Unit} (h : w.ownsMap Try.prog 43 (plainElem Try.prog 3) b n D) : IsMap D := by
  obtain ⟨es, clock, _, _, _, rfl⟩ := h
  exact ⟨_, rfl⟩
def BagAt (w : World) (b n : Nat) (f : V → Int) (u : V) : Prop :=
  ∃ D : DataW Unit, w.ownsMap Try.prog 43 (plainElem Try.prog 3) b n D ∧ (∀ v, D.atKey (.string (kb v)) (.lit (.int .i64 0)) = .lit (.int .i64 (f v))) ∧ (∀ v, v ≠ u → (has D (.string (kb v)) = true ↔ f v ≠ 0)) ∧ has D (.string (kb u)) = true
theorem BagAt.look {w : World} {b n : Nat} {f : V → Int} {u : V} (h : BagAt w b n f u) (v : V) : (Instr.lookup 54 (.map (some b)) (encV v) false).run Try.prog w = .ok (.int .i64 (f v)) w := by
  obtain ⟨D, h, h1, _⟩ := h
  obtain ⟨c, hr, hc, _⟩ := h.lookup_int KV Try.underlying54 Try.underlying3 (zeroI w) (keyOf_enc v)
  rw [h1 v] at hc
  have : f v = c := by simpa using hc
  rw [hr, this]
theorem BagAt.keep {w : World} {b n : Nat} {f : V → Int} {u : V} (h : BagAt w b n f u) (hu : f u ≠ 0) : Bag w b n f := by
  obtain ⟨D, h, h1, h2, h3⟩ := h
  refine ⟨D, h, h1, fun v => ?_⟩
  by_cases e : v = u
  · subst e; simp [h3, hu]
  · exact h2 v e
theorem Bag.store {w : World} {b n : Nat} {f : V → Int} (h : Bag w b n f) (v : V) {c : Int} (hc : (Lit.int .i64 c).wf = true) (hn : n < maxLen) :
    ∃ w', (Instr.mapUpdate 54 (.map (some b)) (encV v) (.int .i64 c)).run Try.prog w = .ok () w' ∧ BagAt w' b (n + 1) (set f v c) v ∧ w.mapTurned w' b := by
  obtain ⟨D, h, h1, h2⟩ := h
  obtain ⟨w', hr, ho, ht⟩ := h.store KV Try.underlying54 hn (keyOf_enc v) (plainElem_int (H := Unit) Try.underlying3 hc)
  refine ⟨w', hr, ⟨_, ho, fun u => ?_, fun u hu => ?_, has_put_same (World.ownsMap.isMap_ h) (isKey v) _⟩, ht⟩
  · unfold set
    by_cases e : u = v
    · subst e; rw [atKey_put_same (World.ownsMap.isMap_ h) (isKey u)]; simp
    · rw [atKey_put_other (kb_ne e), h1, if_neg e]
  · rw [has_put_other (kb_ne hu), h2]
    unfold set
    rw [if_neg hu]
theorem BagAt.drop {w : World} {b n : Nat} {f : V → Int} {u : V} (h : BagAt w b n f u) (hu : f u = 0) (ty : TypeId) :
    ∃ w', (Builtin.delete_ #[54, 43] ty #[.map (some b), encV u]).run Try.prog w = .ok (.tuple #[]) w' ∧ Bag w' b n f ∧ w.mapTurned w' b := by
  obtain ⟨D, h, h1, h2, h3⟩ := h
  obtain ⟨w', hr, ho, ht⟩ := h.drop KV Try.underlying54 (keyOf_enc u) ty
  refine ⟨w', hr, ⟨_, ho, fun v => ?_, fun v => ?_⟩, ht⟩
  · by_cases e : v = u
    · subst e; rw [atKey_del_same, hu]
    · rw [atKey_del_other (kb_ne e), h1]
  · by_cases e : v = u
    · subst e; rw [has_del_same]; simp [hu]
    · rw [has_del_other (kb_ne e), h2 v e]
end Go.Proofs.Ytmpbpgbhohefeaa.Ag
end
section
namespace Go.Proofs.Ytmpbpgbhohefeaa.Ag
open Go.RowKit Go.Maps Go.Proofs.YtmpbpgbhohefeaaW.PrintWords Go.Proofs.YtmpbpgbhohefeaaW.PrintLast
open Go.ChangeMaps (setBlock)
set_option linter.unusedSimpArgs false
structure Ch (M : Nat → Prop) (w w' : World) : Prop where
  os : w'.os = w.os
  tape : w'.tape = w.tape
  output : w'.output = w.output
  size : w.heap.size ≤ w'.heap.size
  block : ∀ k, k < w.heap.size → ¬ M k → w'.heap[k]? = w.heap[k]?
theorem Ch.refl (M : Nat → Prop) (w : World) : Ch M w w := ⟨rfl, rfl, rfl, Nat.le_refl _, fun _ _ _ => rfl⟩
theorem Ch.trans {M : Nat → Prop} {a b c : World} (h : Ch M a b) (k : Ch M b c) : Ch M a c := ⟨k.os.trans h.os, k.tape.trans h.tape, k.output.trans h.output, Nat.le_trans h.size k.size, fun i hi hm => (k.block i (Nat.lt_of_lt_of_le hi h.size) hm).trans (h.block i hi hm)⟩
theorem Ch.mono {M M' : Nat → Prop} {a b : World} (h : Ch M a b) (hm : ∀ k, M k → M' k) : Ch M' a b := ⟨h.os, h.tape, h.output, h.size, fun i hi hn => h.block i hi (fun x => hn (hm i x))⟩
theorem Ch.of_below {M : Nat → Prop} {a b : World} (h : Below a.heap.size a b) : Ch M a b := ⟨h.os, h.tape, h.output, h.size, fun i hi _ => h.block i hi⟩
theorem Ch.below {M : Nat → Prop} {B : Nat} {a b : World} (h : Ch M a b) (hB : B ≤ a.heap.size) (hm : ∀ k, M k → B ≤ k) : Below B a b := ⟨h.os, h.tape, h.output, h.size, fun i hi => h.block i (by omega) (fun x => by have := hm i x; omega)⟩
theorem Ch.grown {M : Nat → Prop} {a b : World} {row : Option Nat} (h : a.grownBy b row) (hm : ∀ k, row = some k → M k) : Ch M a b := ⟨h.os, h.tape, h.output, h.size, fun i hi hn => h.block i hi (fun e => hn (hm i e.symm))⟩
theorem Ch.alloc {M : Nat → Prop} {a b : World} (h : Ch M a b) (o : Obj) : Ch M a (b.alloc o) := h.trans (Ch.of_below (below_alloc (Below.refl _ _) o))
theorem Ch.drew {M : Nat → Prop} {a b : World} (h : Ch M a b) : Ch M a b.drew := h.trans (Ch.of_below (below_drew (Below.refl _ _)))
theorem Ch.set {M : Nat → Prop} {a b : World} (h : Ch M a b) {p : Addr} (hp : M p.block ∨ a.heap.size ≤ p.block) (u : Value) : Ch M a (b.setCell p u) :=
  ⟨h.os, h.tape, h.output, by simpa [World.setCell] using h.size, fun i hi hn => (Below.heap_setCell _ _ _ _ (fun e => by rcases hp with hp | hp; exact hn (e ▸ hp); omega)).trans (h.block i hi hn)⟩
theorem Ch.cell {M : Nat → Prop} {a b : World} (h : Ch M a b) {p : Addr} (hp : p.block < a.heap.size) (hm : ¬ M p.block) : b.cell? p = a.cell? p := World.cell?_of_block (w := a) (h.block p.block hp hm)
theorem Ch.frozen {M : Nat → Prop} {a b : World} (h : Ch M a b) {p : Addr} (hp : p.block < a.heap.size) (hm : ¬ M p.block) : b.frozen? p = a.frozen? p := World.frozen?_of_block (w := a) (h.block p.block hp hm)

theorem setBlock_twice (w : World) (b : Nat) (x y : Obj) : setBlock (setBlock w b x) b y = setBlock w b y := by simp [setBlock]
theorem cell_setBlock {w : World} {b : Nat} {es : Array MapEntry} {clock : Nat} {x : Obj} (hb : w.heap[b]? = some (.map es clock)) (hx : ∃ es' clock', x = .map es' clock') (a : Addr) : (setBlock w b x).cell? a = w.cell? a := by
  obtain ⟨es', clock', rfl⟩ := hx
  by_cases e : a.block = b
  · have h1 : (setBlock w b (.map es' clock')).heap[a.block]? = some (.map es' clock') := by rw [e]; exact ChangeMaps.heap_setBlock_same hb _
    have h2 : w.heap[a.block]? = some (.map es clock) := by rw [e]; exact hb
    simp [World.cell?, h1, h2]
  · have h1 : (setBlock w b (.map es' clock')).heap[a.block]? = w.heap[a.block]? := ChangeMaps.heap_setBlock_other hb _ e
    simp [World.cell?, h1]
theorem Bag.entry {w : World} {b n : Nat} {f : V → Int} (h : Bag w b n f) (v : V) (hn : n < maxLen) :
    ∃ (v0 : Value) (st : Nat) (w1 : World), (Instr.mapEntry 54 (.map (some b)) (encV v)).run Try.prog w = .ok (.tuple #[v0, goInt st]) w1 ∧ w.mapTurned w1 b ∧
      (Instr.lookup 54 (.map (some b)) (encV v) false).run Try.prog w1 = .ok (.int .i64 (f v)) w1 ∧ (∀ a, w1.cell? a = w.cell? a) ∧
      ∀ c : Int, (Lit.int .i64 c).wf = true → ∃ w2, (Instr.entryStore 54 (.map (some b)) (goInt st) (.int .i64 c)).run Try.prog w1 = .ok () w2 ∧ BagAt w2 b (n + 1) (set f v c) v ∧ w.mapTurned w2 b := by
  have hlook := h.look v
  have hwf := h.wf v
  obtain ⟨wu, hu1, hu2, hu3⟩ := h.store v hwf hn
  have hst := fun c hc => h.store v (c := c) hc hn
  obtain ⟨D, ⟨es, clock, hb, F, hs, hD⟩, hat, hhas⟩ := h
  obtain ⟨v0, st, es1, clock1, h1, h2, h3⟩ := WideElems.entry_then_store KL Try.underlying54 (z := .int .i64 0) zeroI hb F (keyOf_enc v)
  have hw1 : (Instr.mapUpdate 54 (.map (some b)) (encV v) (.int .i64 (f v))).run Try.prog w = .ok () (setBlock w b (.map es1 clock1)) := by
    rcases KV.find w (keyOf_enc v) es.toList F.keys with ⟨g1, g2⟩ | ⟨j, e0, g1, g2, g3⟩
    · have hz : f v = 0 := by
        simp [Instr.lookup, run_underlying Try.underlying54, MapKept.run_getObj_map hb, KV.check w _ (keyOf_enc v), g1, zeroI, Result.andThen] at hlook
        exact hlook.symm
      have e1 : (Instr.mapEntry 54 (.map (some b)) (encV v)).run Try.prog w = .ok (.tuple #[.int .i64 0, goInt clock]) (setBlock w b (.map (es.push ⟨encV v, .int .i64 0, clock⟩) (clock + 1))) := by
        simp [Instr.mapEntry, run_underlying Try.underlying54, MapKept.run_getObj_map hb, KV.check w false (keyOf_enc v), g1, zeroI, MapKept.run_setObj_map _ hb, Result.andThen, setBlock]
      have e2 : (Instr.mapUpdate 54 (.map (some b)) (encV v) (.int .i64 (f v))).run Try.prog w = .ok () (setBlock w b (.map (es.push ⟨encV v, .int .i64 0, clock⟩) (clock + 1))) := by
        rw [hz]
        simp [Instr.mapUpdate, run_underlying Try.underlying54, MapKept.run_getObj_map hb, KV.check w false (keyOf_enc v), g1, MapKept.run_setObj_map _ hb, Result.andThen, setBlock]
      rw [h1] at e1
      have e1 := (Result.ok.inj e1).2
      rw [e2, e1]
    · have hj : es[j]? = some e0 := by simpa using g2
      have hz : e0.val = .int .i64 (f v) := by
        simp [Instr.lookup, run_underlying Try.underlying54, MapKept.run_getObj_map hb, KV.check w _ (keyOf_enc v), g1, zeroI, Result.andThen] at hlook
        exact hlook
      have hmod : es.modify j (fun e' => { e' with key := encV v, val := .int .i64 (f v) }) = es.modify j (fun e' => { e' with key := encV v }) := by
        apply Array.ext'
        rw [Array.toList_modify, Array.toList_modify, ChangeMaps.modify_eq_set _ _ _ _ g2, ChangeMaps.modify_eq_set _ _ _ _ g2, ← hz]
      have e1 : (Instr.mapEntry 54 (.map (some b)) (encV v)).run Try.prog w = .ok (.tuple #[e0.val, goInt e0.born]) (setBlock w b (.map (es.modify j (fun e' => { e' with key := encV v })) clock)) := by
        simp [Instr.mapEntry, run_underlying Try.underlying54, MapKept.run_getObj_map hb, KV.check w false (keyOf_enc v), g1, hj, g3, KV.stays w (keyOf_enc v), MapKept.run_setObj_map _ hb, Result.andThen, setBlock]
      have e2 : (Instr.mapUpdate 54 (.map (some b)) (encV v) (.int .i64 (f v))).run Try.prog w = .ok () (setBlock w b (.map (es.modify j (fun e' => { e' with key := encV v })) clock)) := by
        simp [Instr.mapUpdate, run_underlying Try.underlying54, MapKept.run_getObj_map hb, KV.check w false (keyOf_enc v), g1, hj, g3, KV.stays w (keyOf_enc v), hmod, MapKept.run_setObj_map _ hb, Result.andThen, setBlock]
      rw [h1] at e1
      have e1 := (Result.ok.inj e1).2
      rw [e2, e1]
  rw [hu1] at hw1
  have hw1 := (Result.ok.inj hw1).2
  subst hw1
  refine ⟨v0, st, _, h1, hu3, ?_, cell_setBlock hb ⟨_, _, rfl⟩, fun c hc => ?_⟩
  · have := hu2.look v
    simpa [set] using this
  · obtain ⟨es', clock', k1, k2⟩ := h3 (setBlock w b (.map es1 clock1)) (.int .i64 c) (ChangeMaps.heap_setBlock_same hb _)
    obtain ⟨w2, j1, j2, j3⟩ := hst c hc
    rw [k2] at j1
    have j1 := (Result.ok.inj j1).2
    subst j1
    rw [setBlock_twice] at k1
    exact ⟨_, k1, j2, j3⟩
end Go.Proofs.Ytmpbpgbhohefeaa.Ag
end
section
namespace Go.Proofs.Ytmpbpgbhohefeaa.Ag
open Go.RowKit Go.Maps Go.Sort Go.Shelf
set_option linter.unusedVariables false
theorem perm_end {D0 : DataW Unit} {left : Lit → Bool} {ss : List V} (h : Collected D0 left (ss.map kb)) (hl : ∀ kl, left kl = false) : ss.Nodup ∧ ∀ v, v ∈ ss ↔ has D0 (.string (kb v)) = true := by
  refine ⟨(List.pairwise_map.1 h.1).imp (fun {a b} hab e => hab (by rw [e])), fun v => ?_⟩
  have h2 := h.2 (kb v)
  rw [hl] at h2
  rw [show has D0 (.string (kb v)) = true ↔ kb v ∈ ss.map kb from by rw [h2]; simp]
  constructor
  · exact fun hv => List.mem_map_of_mem hv
  · intro hv
    obtain ⟨u, hu, e⟩ := List.mem_map.1 hv
    exact kb_inj e ▸ hu

set_option maxRecDepth 100000 in
set_option maxHeartbeats 1000000 in
theorem keys1_in (F : Fence) (n : Nat) (h10 : F.fn 42) (hro : F.round = none) (hn : 1 ≤ n) (l Bm b nn : Nat) (D0 : DataW Unit) (J : List V → World → Prop)
    (hY : ∀ pre x W, J pre W → pre.length < Maps.size D0 → YieldAt F (n - 1) Try.prog l #[encV x] W fun e W' => e = .returned (.bool true) ∧ J (pre ++ [x]) W' ∧ KeepsWalks W W')
    (W : World) (hJ : AbidesFrom W.heap.size J) (hm : W.cell? ⟨Bm, 0, none⟩ = some (.map (some b))) (hown : W.ownsMap Try.prog 43 (plainElem Try.prog 3) b nn D0) (h0 : J [] W) :
    CallsIn F n Try.prog 42 #[.func (.yield l) #[] #[], .pointer (some ⟨Bm, 0, none⟩)] W fun e W' => (∃ v, e = .returned v) ∧ ∃ ss : List V, (ss.Nodup ∧ ∀ v, v ∈ ss ↔ has D0 (.string (kb v)) = true) ∧ J ss W' := by
  refine callsIn_of_wp Try.func42 rfl h10 ?_ hro
  simp only [Try.ntmps42, List.size_toArray, List.length_cons, List.length_nil, Nat.reduceAdd, Nat.reduceSub, Array.replicate_succ, Array.replicate_zero, List.push_toArray, List.append_toArray, List.nil_append, List.cons_append]
  gi_wp2_with (first
    | (gi_at_range; refine wpListIn_range_own _ rfl _ 54 rfl 43 3 KV Try.underlying54 _ b nn _ rfl hown ?_; intro w0 hrg0 hg0 hs0)
    | gi_in)
  go_frame
  gi_loopw [3] (fun _ wr => ∃ (left : Lit → Bool) (cnt : Nat) (ss : List V), wr.ranges Try.prog 43 (plainElem Try.prog 3) b W.heap.size nn D0 left cnt ∧ ss.length + cnt ≤ Maps.size D0 ∧ Collected D0 left (ss.map kb) ∧ J ss wr)
    (fun _ wr => wr.rangeLeft b W.heap.size)
  case atStart =>
    exact ⟨_, _, [], hrg0, by simp, Collected.start D0, hJ [] W w0 none h0 hg0 (fun r e => by cases e)⟩
  case round =>
    obtain ⟨left, cnt, ss, hrg, hcs, hC, hJs⟩ := hrel
    gi_wp2_with (first
      | (gi_at_next; refine wpListIn_next_ranges _ rfl _ rfl 43 KV (plainElem Try.prog 3) encV id (fun key kl hk => by obtain ⟨x, hx, _⟩ := keyOf_inv hk; exact ⟨x, hx⟩) (fun v _ _ => ⟨v, rfl⟩) b W.heap.size nn _ _ _ rfl hrg ?_ ?_)
      | gi_in)
    · -- NOTHING IS LEFT
      intro hc0 hl0
      gi_wp2
      go_end0
      exact ⟨⟨_, rfl⟩, ss, perm_end hC hl0, hJs⟩
    · -- AN ENTRY HAS COME: yield(k)
      intro x c kl yd yp w2 cnt2 hkey hlk hv hat hrg2 hlt hg2 hs2 hen
      obtain ⟨x', ex, rfl⟩ := keyOf_inv hkey
      obtain rfl : x = x' := encV_inj ex
      have hJ2 : J ss w2 := hJ ss wr w2 (some W.heap.size) hJs hg2 (fun r e => by cases e; exact ⟨Nat.le_refl _, hrg.iter_walk⟩)
      clear hs2
      have hJ3 : J ss (w2.alloc (.cells #[.int .i64 x.k, .int .i64 x.n, .string x.s] 43)) := hJ ss w2 _ none hJ2 (World.grownBy_alloc w2 _ none) (fun r e => by cases e)
      obtain ⟨fn, tmps, assign, body, hy, hR⟩ := hY ss x _ hJ3 (by omega)
      have hrg3 := hrg2.alloc (.cells #[.int .i64 x.k, .int .i64 x.n, .string x.s] 43)
      clear hJ2 hrg2
      gi_wp2
      refine hR.mono ?_
      rintro e W3 ⟨rfl, hJ4, hk3⟩
      gi_wp2
      have hrg4 := hrg3.of_walks hk3
      go_roundw
      case rel => exact ⟨_, cnt2, ss ++ [x], hrg4, by simp; omega, by rw [List.map_append]; exact hC.step hlk hat, hJ4⟩
      case measure => rw [hrg4.left_eq, hrg.left_eq]; exact hlt
theorem keys_in (F : Fence) (n : Nat) (h7 : F.fn 38) (hro : F.round = none) (mb : Option Nat) (w : World) :
    CallsIn F n Try.prog 38 #[.map mb] w fun e w' => e = .returned (.func (.func 42) #[] #[.pointer (some ⟨w.heap.size, 0, none⟩)]) ∧ w' = w.alloc (.cells #[.map mb] 54) := by
  refine callsIn_of_wp Try.func38 rfl h7 ?_ hro
  simp only [Try.ntmps38, List.size_toArray, List.length_cons, List.length_nil, Nat.reduceAdd, Nat.reduceSub, Array.replicate_succ, Array.replicate_zero, List.push_toArray, List.append_toArray, List.nil_append, List.cons_append]
  gi_wp2
  go_ret
  exact ⟨rfl, rfl⟩
theorem keys_gives (F : Fence) (n : Nat) (h10 : F.fn 42) (hro : F.round = none) (hn : 1 ≤ n) (Bm b nn : Nat) (D0 : DataW Unit) (w : World) (hBm : Bm < w.heap.size)
    (hm : w.cell? ⟨Bm, 0, none⟩ = some (.map (some b))) (hown : w.ownsMap Try.prog 43 (plainElem Try.prog 3) b nn D0) :
    SeqGives F n Try.prog 42 #[.pointer (some ⟨Bm, 0, none⟩)] encV (fun ss => ss.Nodup ∧ ∀ v, v ∈ ss ↔ has D0 (.string (kb v)) = true) (Maps.size D0) w := fun l J W hW hJ hY h0 => by
  have hown' : W.ownsMap Try.prog 43 (plainElem Try.prog 3) b nn D0 := by
    have hbl := hown.lt
    obtain ⟨es, clock, hb, Ft, hs, hD⟩ := hown
    exact ⟨es, clock, (hW.block b hbl).trans hb, Ft, hs, hD⟩
  exact keys1_in F n h10 hro hn l Bm b nn D0 J hY W hJ ((hW.cell (p := ⟨Bm, 0, none⟩) hBm).trans hm) hown' h0
end Go.Proofs.Ytmpbpgbhohefeaa.Ag
end
section
namespace Go.Proofs.Ytmpbpgbhohefeaa.Ag
open Go.RowKit Go.Maps Go.Sort Go.Shelf
set_option linter.unusedVariables false
attribute [local go_sem] Oper.semAt_some
def flat (ss : List V) : List Value := ss.flatMap cells
theorem flat_snoc (ss : List V) (x : V) : flat (ss ++ [x]) = flat ss ++ cells x := by simp [flat]
theorem info43 : (Try.prog.info? 43).map (fun i => (i.zero, i.size, i.bytes)) = some (some (.agg #[.int .i64 0, .int .i64 0, .string ⟨#[]⟩]), 3, 32) := by kernel_rfl
noncomputable def rfIn : Code → Option (Code × Code)
  | .seq a b => match rfIn a with
    | some x => some x
    | none => rfIn b
  | .block _ c => rfIn c
  | .rangeFunc _ _ a b => some (a, b)
  | _ => none
noncomputable def apCode : Code × Code := match Try.f46.body with
  | some c => (rfIn c).getD (.ret, .ret)
  | none => (.ret, .ret)
noncomputable def apRec (fn : FuncId) (sv : Value) (Bs D : Nat) (st : LoopState) (pend : Option Code) : Loop :=
  { state := st, pending := pend, fn, tmps := #[.slice none 0 0, sv, .pointer (some ⟨Bs, 0, none⟩), undef, .slice none 0 0, undef, sv, undef, undef, undef, undef, undef, undef], params := #[7], assign := apCode.1, body := apCode.2, defers := D }
structure ApAt (w0 : World) (fn : FuncId) (sv : Value) (Bs l D : Nat) (ss : List V) (W : World) : Prop where
  box : ∃ v, W.heap[Bs]? = some (.cells #[v] 37 (0, 0)) ∧ W.ownsRow w0.heap.size 43 3 v ss.length (flat ss) ∧ (v = .slice none 0 0 ↔ ss = [])
  L : W.heap[l]? = some (.loop (apRec fn sv Bs D .ready none))
  K : W.heap[D]? = some (.deferred (some []))
  below : Below w0.heap.size w0 W
theorem ap_abides (w0 : World) (fn : FuncId) (sv : Value) (Bs l D B : Nat) (hB : w0.heap.size ≤ B) : AbidesFrom B (ApAt w0 fn sv Bs l D) := fun s W W' row h hg hrow => by
  have hrow' : ∀ r, row = some r → ∃ o : Obj, W.heap[r]? = some o ∧ o.isWalk = true := fun r e => (hrow r e).2
  obtain ⟨v, hv, hr, hn⟩ := h.box
  exact ⟨⟨v, (grownBy_keeps hg hrow' hv rfl).trans hv, ownsRow_abides_a hr hg hrow', hn⟩, (grownBy_keeps hg hrow' h.L rfl).trans h.L, (grownBy_keeps hg hrow' h.K rfl).trans h.K,
    h.below.grown hg h.below.size (fun k e => Nat.le_trans hB (hrow k e).1)⟩
theorem add_block (a : Addr) (j : Nat) : (a.add j).block = a.block := by unfold Addr.add; split <;> rfl
theorem cells_new3 (w : World) (x : V) : ∀ j u, (cells x)[j]? = some u → (w.alloc (.cells #[.int .i64 x.k, .int .i64 x.n, .string x.s] 43)).cell? ((⟨w.heap.size, 0, none⟩ : Addr).add j) = some u := by
  intro j u hj
  match j, hj with
  | 0, hj => simp [cells] at hj; subst hj; simp [Addr.add]
  | 1, hj => simp [cells] at hj; subst hj; simp [Addr.add]
  | 2, hj => simp [cells] at hj; subst hj; simp [Addr.add]
  | j + 3, hj => simp [cells] at hj
set_option maxRecDepth 100000 in
set_option maxHeartbeats 4000000 in
theorem apYield (F : Fence) (m : Nat) (w0 : World) (fn : FuncId) (hfn : F.fn fn) (sv : Value) (Bs l D : Nat) (hBl : Bs ≠ l) (hDl : D ≠ l) (hDB : D ≠ Bs) (h0B : w0.heap.size ≤ Bs) (h0l : w0.heap.size ≤ l)
    (N : Nat) (hN : N ≤ maxLen) (hNb : N * 32 ≤ 140737488355328) (ss : List V) (x : V) (W : World) (h : ApAt w0 fn sv Bs l D ss W) (hlen : ss.length < N) :
    YieldAt F m Try.prog l #[encV x] W fun e W' => e = .returned (.bool true) ∧ ApAt w0 fn sv Bs l D (ss ++ [x]) W' ∧ KeepsWalks W W' := by
  have hne : (37 : Nat) ≠ 43 := by decide
  obtain ⟨i0, hi, hz0, hz1, hz2⟩ := info_parts info43
  refine ⟨fn, #[.slice none 0 0, sv, .pointer (some ⟨Bs, 0, none⟩), undef, .slice none 0 0, undef, sv, encV x, undef, undef, undef, undef, undef], apCode.1, apCode.2, by simpa [apRec] using run_yield (P := Try.prog) (args := #[encV x]) h.L rfl, roundIn_of_wpIn hfn ?_⟩
  have hl0 : l < W.heap.size := (Array.getElem?_eq_some_iff.1 h.L).1
  obtain ⟨W1, hW1⟩ : ∃ W1, W.alloc (.cells #[.int .i64 x.k, .int .i64 x.n, .string x.s] 43) = W1 := ⟨_, rfl⟩
  have hx1 : ∀ j u, (cells x)[j]? = some u → W1.cell? ((⟨W.heap.size, 0, none⟩ : Addr).add j) = some u := by rw [← hW1]; exact cells_new3 W x
  have hk1 : KeepsWalks W W1 := by rw [← hW1]; exact KeepsWalks.alloc _ _
  have hs1 : W1.heap.size = W.heap.size + 1 := by rw [← hW1]; simp
  have h1 : ApAt w0 fn sv Bs l D ss W1 := by rw [← hW1]; exact ap_abides w0 fn sv Bs l D _ (Nat.le_refl _) ss W _ none h (World.grownBy_alloc W _ none) (fun r e => by cases e)
  obtain ⟨v, hv, hrow, _⟩ := h1.box
  have hl : l < W1.heap.size := by omega
  have hbr := run_beginRound (P := Try.prog) h1.L rfl
  obtain ⟨W2, hW2⟩ : ∃ W2, W1.putObj l (.loop { apRec fn sv Bs D .ready none with state := .busy }) = W2 := ⟨_, rfl⟩
  rw [hW2] at hbr
  have hg2 : W1.grownBy W2 (some l) := by rw [← hW2]; exact grownBy_putObj_a _ _ _
  have hk2 : KeepsWalks W W2 := hk1.trans (by rw [← hW2]; exact KeepsWalks.putObj _ h1.L rfl)
  have hv2 : W2.heap[Bs]? = some (.cells #[v] 37 (0, 0)) := by rw [← hW2]; exact (World.putObj_heap_other hBl).trans hv
  have hK2 : W2.heap[D]? = some (.deferred (some [])) := by rw [← hW2]; exact (World.putObj_heap_other hDl).trans h1.K
  have hL2 : W2.heap[l]? = some (.loop { apRec fn sv Bs D .ready none with state := .busy }) := by rw [← hW2]; exact World.putObj_heap_same hl
  have hrow2 : W2.ownsRow w0.heap.size 43 3 v ss.length (flat ss) := hrow.kept hg2 (ownsRow_ne_a hrow h1.L (fun cur e => by first | cases e | exact hne (Obj.cells.inj e).2.1))
  have hb2 : Below w0.heap.size w0 W2 := h1.below.grown hg2 h1.below.size (fun k e => by cases e; exact h0l)
  have hxl : W.heap.size ≠ l := by omega
  have hx2 : ∀ j u, (cells x)[j]? = some u → W2.cell? ((⟨W.heap.size, 0, none⟩ : Addr).add j) = some u := fun j u hj => (World.cell?_of_block (w := W1) (by rw [← hW2]; exact World.putObj_heap_other (by rw [add_block]; exact hxl))).trans (hx1 j u hj)
  have hx20 : W2.cell? ⟨W.heap.size, 0, none⟩ = some (.int .i64 x.k) := hx2 0 _ rfl
  have hx21 : W2.cell? ⟨W.heap.size, 1, none⟩ = some (.int .i64 x.n) := hx2 1 _ rfl
  have hx22 : W2.cell? ⟨W.heap.size, 2, none⟩ = some (.string x.s) := hx2 2 _ rfl
  obtain ⟨hc2, hf2⟩ := cell_of_box_a hv2
  have hBlt : Bs < W2.heap.size := (Array.getElem?_eq_some_iff.1 hv2).1
  have hl2 : l < W2.heap.size := (Array.getElem?_eq_some_iff.1 hL2).1
  have hDlt : D < W2.heap.size := (Array.getElem?_eq_some_iff.1 hK2).1
  have ne_of : ∀ {j : Nat} {o : Obj}, W2.heap[j]? = some o → (∀ cur, o ≠ .cells cur 43 (0, 0)) → some j ≠ v.ownBlock := fun hj hno => by
    rcases ownsRow_ne_a hrow2 hj hno with e | e
    · rw [e]; simp
    · exact fun e' => e e'.symm
  clear hW2 hx1 hx2
  simp only [apCode, Try.f46, rfIn, Option.getD]
  gi_wp2_with (first
    | (gi_at_builtin; refine wpListIn_append_own _ rfl _ _ 37 rfl w0.heap.size 43 i0 (.agg #[.int .i64 0, .int .i64 0, .string ⟨#[]⟩]) 3 32 Try.underlying37 hi hz0 hz1 hz2 rfl (by decide) _ _ _ rfl (hrow2.alloc _) ⟨W2.heap.size, 0, none⟩ 1 1 (cells x) rfl rfl (cells_new3 _ _) (by simp [Value.oneCell', cells]) (by omega) (by omega) (by have := hb2.size; simp; omega) ?_; intro v' w3 hown' hg3 hnil3
       have hv3 : w3.heap[Bs]? = some (.cells #[v] 37 (0, 0)) := (hg3.block Bs (by simp; omega) (ne_of hv2 (fun cur e => by first | cases e | exact hne (Obj.cells.inj e).2.1))).trans ((Below.heap_alloc _ _ Bs hBlt).trans hv2)
       obtain ⟨hc3, hf3⟩ := cell_of_box_a hv3
       obtain ⟨g', cap', cur', rfl, hbase', hgb', hr1, hr2, hr3, hr4⟩ : ∃ g' cap' cur', v' = .slice (some ⟨g', 0, none⟩) (ss.length + 1) cap' ∧ w0.heap.size ≤ g' ∧ w3.heap[g']? = some (.cells cur' 43 (0, 0)) ∧ ss.length + 1 ≤ cap' ∧ cap' ≤ maxLen ∧ cur'.size = cap' * 3 ∧ cur'.toList.take ((ss.length + 1) * 3) = flat ss ++ cells x := by
         rcases hown'.2 with ⟨_, h0⟩ | h'
         · exact absurd h0 (by omega)
         · exact h'
       go_frame)
    | gi_in)
  have hg3' : (W2.alloc (.cells #[.int .i64 x.k, .int .i64 x.n, .string x.s] 43)).grownBy w3 v.ownBlock := hg3
  have hL3 : w3.heap[l]? = some (.loop { apRec fn sv Bs D .ready none with state := .busy }) := (hg3'.block l (by simp; omega) (ne_of hL2 (fun cur e => by first | cases e | exact hne (Obj.cells.inj e).2.1))).trans ((Below.heap_alloc _ _ l hl2).trans hL2)
  have hK3 : w3.heap[D]? = some (.deferred (some [])) := (hg3'.block D (by simp; omega) (ne_of hK2 (fun cur e => by first | cases e | exact hne (Obj.cells.inj e).2.1))).trans ((Below.heap_alloc _ _ D hDlt).trans hK2)
  obtain ⟨w4, hw4⟩ : ∃ w4, w3.setCell ⟨Bs, 0, none⟩ (.slice (some ⟨g', 0, none⟩) (ss.length + 1) cap') = w4 := ⟨_, rfl⟩
  rw [hw4]
  have hg4 : w3.grownBy w4 (some Bs) := by rw [← hw4]; exact grownBy_setCell0_a _ _ _
  have hv4 : w4.heap[Bs]? = some (.cells #[.slice (some ⟨g', 0, none⟩) (ss.length + 1) cap'] 37 (0, 0)) := by rw [← hw4]; exact heap_setCell_box_a _ hv3
  have hL4 : w4.heap[l]? = some (.loop { apRec fn sv Bs D .ready none with state := .busy }) := (hg4.block l (Array.getElem?_eq_some_iff.1 hL3).1 (fun e => hBl (by cases e; rfl))).trans hL3
  have hK4 : w4.heap[D]? = some (.deferred (some [])) := (hg4.block D (Array.getElem?_eq_some_iff.1 hK3).1 (fun e => hDB (by cases e; rfl))).trans hK3
  have hrow4 := hown'.kept hg4 (ownsRow_ne_a hown' hv3 (fun cur e => by first | cases e | exact hne (Obj.cells.inj e).2.1))
  have hl4 : l < w4.heap.size := (Array.getElem?_eq_some_iff.1 hL4).1
  have hb3 : Below w0.heap.size w0 w3 := (hb2.alloc hb2.size _).grown hg3' (by have := hb2.size; simp; omega) (fun k e => (hrow2.lt k e).1)
  have hb4 : Below w0.heap.size w0 w4 := hb3.grown hg4 hb3.size (fun k e => by cases e; exact h0B)
  have hk4 : KeepsWalks W w4 := ((hk2.trans (KeepsWalks.alloc _ _)).trans (KeepsWalks.of_grownBy hg3' (ownsRow_not_walk_a (hrow2.alloc _)))).trans (by rw [← hw4]; exact KeepsWalks.setCell _ _ _)
  clear hw4
  refine ⟨_, _, run_endRound none hL4, rfl, ⟨⟨_, (World.putObj_heap_other hBl).trans hv4, ?_, by simp⟩, World.putObj_heap_same hl4, (World.putObj_heap_other hDl).trans hK4, hb4.grown (grownBy_putObj_a _ _ _) hb4.size (fun k e => by cases e; exact h0l)⟩, hk4.trans (KeepsWalks.putObj _ hL4 rfl)⟩
  have := hrow4.kept (grownBy_putObj_a w4 l (.loop { { apRec fn sv Bs D .ready none with state := .busy } with state := if (none : Option Code).isNone then .ready else .done, pending := none })) (ownsRow_ne_a hrow4 hL4 (fun cur e => by first | cases e | exact hne (Obj.cells.inj e).2.1))
  rw [flat_snoc]
  simpa using this
set_option maxRecDepth 100000 in
set_option maxHeartbeats 4000000 in
theorem appendSeq_in (F : Fence) (n : Nat) (h11 : F.fn 46) (hro : F.round = none) (hn : 2 ≤ n) (g : Nat) (lb : Array Value) (hFg : F.fn g) (eg : ∀ args w, (callFunc g args).run Try.prog w = .ok (.enter g args) w)
    (S : List V → Prop) (N : Nat) (hN : N ≤ maxLen) (hNb : N * 32 ≤ 140737488355328) (w : World) (hseq : SeqGives F (n - 1) Try.prog g lb encV S N w) :
    CallsIn F n Try.prog 46 #[.slice none 0 0, .func (.func g) #[] lb] w fun e w' => ∃ (v : Value) (ss : List V), e = .returned v ∧ S ss ∧ w'.ownsRow w.heap.size 43 3 v ss.length (flat ss) ∧ (v = .slice none 0 0 ↔ ss = []) ∧ Below w.heap.size w w' := by
  have h1 : 1 ≤ n := by omega
  have hne : (37 : Nat) ≠ 43 := by decide
  refine callsIn_of_wp_marks Try.func46 rfl h11 ?_ hro
  simp only [Try.ntmps46, List.size_toArray, List.length_cons, List.length_nil, Nat.reduceAdd, Nat.reduceSub, Array.replicate_succ, Array.replicate_zero, List.push_toArray, List.append_toArray, List.nil_append, List.cons_append]
  gi_wp2
  refine wpIn_rangeFunc ?_
  intro fn hfn
  rw [hro]
  obtain ⟨W0, hW0⟩ : ∃ W0, w.alloc (.cells #[.slice none 0 0] 37) = W0 := ⟨_, rfl⟩
  have hs0 : W0.heap.size = w.heap.size + 1 := by rw [← hW0]; simp
  have hv0 : W0.heap[w.heap.size]? = some (.cells #[.slice none 0 0] 37 (0, 0)) := by rw [← hW0]; exact World.alloc_heap_new w _
  have hb0 : Below w.heap.size w W0 := by rw [← hW0]; exact (Below.refl _ w).alloc (Nat.le_refl _) _
  rw [hW0]
  obtain ⟨W1, hW1⟩ : ∃ W1, (W0.alloc (.deferred (some []))).alloc (.loop (apRec fn (.func (.func g) #[] lb) w.heap.size W0.heap.size .ready none)) = W1 := ⟨_, rfl⟩
  have hold : ∀ k, k < W0.heap.size → W1.heap[k]? = W0.heap[k]? := fun k hk => by
    rw [← hW1]; exact (Below.heap_alloc _ _ k (by simp; omega)).trans (Below.heap_alloc _ _ k hk)
  have hb1 : Below w.heap.size w W1 := by rw [← hW1]; exact (hb0.alloc hb0.size _).alloc (by have := hb0.size; simp; omega) _
  have hs1 : W1.heap.size = W0.heap.size + 2 := by rw [← hW1]; simp
  have hM : ApAt w fn (.func (.func g) #[] lb) w.heap.size (W0.heap.size + 1) W0.heap.size [] W1 :=
    ⟨⟨_, (hold w.heap.size (by omega)).trans hv0, ⟨rfl, .inl ⟨rfl, rfl⟩⟩, by simp⟩,
     by rw [← hW1]; have := World.alloc_heap_new (W0.alloc (.deferred (some []))) (.loop (apRec fn (.func (.func g) #[] lb) w.heap.size W0.heap.size .ready none)); rwa [World.size_alloc] at this,
     by rw [← hW1]; exact (Below.heap_alloc _ _ _ (by simp)).trans (World.alloc_heap_new W0 _), hb1⟩
  refine ⟨W0.heap.size + 1, [{ target := .collected W0.heap.size, args := #[] }], W1, { target := .fn (.func g) lb, args := #[.func (.yield (W0.heap.size + 1)) #[] #[]] }, W1, g,
    #[.func (.yield (W0.heap.size + 1)) #[] #[]] ++ lb, W1, ?_, ?_, ?_, ?_, fun _ => h1, ?_⟩
  · rw [← hW1]; exact run_enterLoop_outer _ _ _ _ _
  · simp [resolve, go_sem]
  · intro f' hf'; simp [Target.leads] at hf'; subst hf'; exact hFg
  · simp [invoke, go_sem, eg]
  · refine (hseq (W0.heap.size + 1) (ApAt w fn (.func (.func g) #[] lb) w.heap.size (W0.heap.size + 1) W0.heap.size) W1 hb1 (ap_abides _ _ _ _ _ _ _ hb1.size)
      (fun pre x W hJ hl => apYield F (n - 1 - 1) w fn hfn _ w.heap.size (W0.heap.size + 1) W0.heap.size (by omega) (by omega) (by omega) (Nat.le_refl _) (by omega) N hN hNb pre x W hJ hl) hM).mono ?_
    rintro e W2 ⟨⟨v0, rfl⟩, ss, hS, h2⟩
    obtain ⟨v, hv, hrow, hnil⟩ := h2.box
    have hend := run_endLoop (P := Try.prog) h2.L (by simp [apRec])
    obtain ⟨W3, hW3⟩ : ∃ W3, W2.putObj (W0.heap.size + 1) (.loop { apRec fn (.func (.func g) #[] lb) w.heap.size W0.heap.size .ready none with state := .exhausted }) = W3 := ⟨_, rfl⟩
    rw [hW3] at hend
    have hg3 : W2.grownBy W3 (some (W0.heap.size + 1)) := by rw [← hW3]; exact grownBy_putObj_a _ _ _
    have hv3 : W3.heap[w.heap.size]? = some (.cells #[v] 37 (0, 0)) := by rw [← hW3]; exact (World.putObj_heap_other (by omega)).trans hv
    have hK3 : W3.heap[W0.heap.size]? = some (.deferred (some [])) := by rw [← hW3]; exact (World.putObj_heap_other (by omega)).trans h2.K
    have hrow3 := hrow.kept hg3 (ownsRow_ne_a hrow h2.L (fun cur e => by first | cases e | exact hne (Obj.cells.inj e).2.1))
    have hb3 : Below w.heap.size w W3 := h2.below.grown hg3 h2.below.size (fun k e => by cases e; omega)
    obtain ⟨hc3, hf3⟩ := cell_of_box_a hv3
    clear hW3
    refine ⟨none, W3, hend, ?_⟩
    gi_wp2
    rw [← hs0]
    refine ⟨by simp, .inl ⟨_, _, rfl, run_takeDeferred hK3, ?_⟩⟩
    exact ⟨_, results_tmp rfl _ _ _, v, ss, rfl, hS, hrow3.kept (grownBy_putObj_a _ _ _) (ownsRow_ne_a hrow3 hK3 (fun cur e => by first | cases e | exact hne (Obj.cells.inj e).2.1)), hnil, hb3.grown (grownBy_putObj_a _ _ _) hb3.size (fun k e => by cases e; omega)⟩
set_option maxHeartbeats 1000000 in
theorem collect_in (F : Fence) (n : Nat) (h8 : F.fn 40) (h11 : F.fn 46) (hro : F.round = none) (hn : 3 ≤ n) (g : Nat) (lb : Array Value) (hFg : F.fn g) (eg : ∀ args w, (callFunc g args).run Try.prog w = .ok (.enter g args) w)
    (S : List V → Prop) (N : Nat) (hN : N ≤ maxLen) (hNb : N * 32 ≤ 140737488355328) (w : World) (hseq : SeqGives F (n - 1 - 1) Try.prog g lb encV S N w) :
    CallsIn F n Try.prog 40 #[.func (.func g) #[] lb] w fun e w' => ∃ (v : Value) (ss : List V), e = .returned v ∧ S ss ∧ w'.ownsRow w.heap.size 43 3 v ss.length (flat ss) ∧ (v = .slice none 0 0 ↔ ss = []) ∧ Below w.heap.size w w' := by
  have h1 : 1 ≤ n := by omega
  refine callsIn_of_wp Try.func40 rfl h8 ?_ hro
  simp only [Try.ntmps40, List.size_toArray, List.length_cons, List.length_nil, Nat.reduceAdd, Nat.reduceSub, Array.replicate_succ, Array.replicate_zero, List.push_toArray, List.append_toArray, List.nil_append, List.cons_append]
  gi_wp2_with (gi_at_call 46; refine (appendSeq_in F (n - 1) h11 hro (by omega) g lb hFg eg S N hN hNb _ hseq).mono ?_; rintro e w' ⟨v, ss, rfl, hS, hrow, hnil, hb⟩)
  go_ret
  exact ⟨v, ss, rfl, hS, hrow, hnil, hb⟩
end Go.Proofs.Ytmpbpgbhohefeaa.Ag
end
section
namespace Go.Proofs.Ytmpbpgbhohefeaa.Ag
open Go.Lib Go.Sort
theorem cb_refl : ∀ a, compareBytes a a = 0
  | [] => rfl
  | a :: r => by unfold compareBytes; rw [if_neg (UInt8.lt_irrefl a), if_neg (UInt8.lt_irrefl a)]; exact cb_refl r
theorem cb_range : ∀ a b, compareBytes a b = -1 ∨ compareBytes a b = 0 ∨ compareBytes a b = 1
  | [], [] => by simp [compareBytes]
  | [], _ :: _ => by simp [compareBytes]
  | _ :: _, [] => by simp [compareBytes]
  | a :: r, b :: s => by unfold compareBytes; split; simp; split; simp; exact cb_range r s
theorem cb_swap : ∀ a b, compareBytes a b = - compareBytes b a
  | [], [] => by simp [compareBytes]
  | [], _ :: _ => by simp [compareBytes]
  | _ :: _, [] => by simp [compareBytes]
  | a :: r, b :: s => by
    unfold compareBytes
    by_cases h : a < b
    · rw [if_pos h, if_neg (fun h' => UInt8.lt_irrefl _ (UInt8.lt_trans h h')), if_pos h]
    · rw [if_neg h]
      by_cases h' : b < a
      · rw [if_pos h', if_pos h']; rfl
      · rw [if_neg h', if_neg h', if_neg h]; exact cb_swap r s
theorem cb_eq : ∀ a b, compareBytes a b = 0 → a = b
  | [], [] => by simp
  | [], _ :: _ => by simp [compareBytes]
  | _ :: _, [] => by simp [compareBytes]
  | a :: r, b :: s => by
    unfold compareBytes
    intro h
    by_cases h1 : a < b
    · rw [if_pos h1] at h; simp at h
    · rw [if_neg h1] at h
      by_cases h2 : b < a
      · rw [if_pos h2] at h; simp at h
      · rw [if_neg h2] at h
        have : a = b := UInt8.le_antisymm (UInt8.not_lt.1 h2) (UInt8.not_lt.1 h1)
        rw [this, cb_eq r s h]
theorem cb_le_trans : ∀ a b c, compareBytes a b ≤ 0 → compareBytes b c ≤ 0 → compareBytes a c ≤ 0
  | [], b, [] => by simp [compareBytes]
  | [], b, _ :: _ => by simp [compareBytes]
  | a :: r, [], c => by simp [compareBytes]
  | a :: r, b :: s, [] => by simp [compareBytes]
  | a :: r, b :: s, c :: t => by
    unfold compareBytes
    intro h1 h2
    by_cases x1 : a < b
    · by_cases x2 : b < c
      · rw [if_pos (UInt8.lt_trans x1 x2)]; decide
      · rw [if_neg x2] at h2
        by_cases x3 : c < b
        · rw [if_pos x3] at h2; simp at h2
        · have : b = c := UInt8.le_antisymm (UInt8.not_lt.1 x3) (UInt8.not_lt.1 x2)
          rw [if_pos (this ▸ x1)]; decide
    · rw [if_neg x1] at h1
      by_cases x4 : b < a
      · rw [if_pos x4] at h1; simp at h1
      · rw [if_neg x4] at h1
        have e : a = b := UInt8.le_antisymm (UInt8.not_lt.1 x4) (UInt8.not_lt.1 x1)
        subst e
        by_cases x2 : a < c
        · rw [if_pos x2]; decide
        · rw [if_neg x2] at h2 ⊢
          by_cases x3 : c < a
          · rw [if_pos x3] at h2; simp at h2
          · rw [if_neg x3] at h2 ⊢
            exact cb_le_trans r s t h1 h2
theorem ci_range (a b : Int) : (compareInt a b = -1 ∧ a < b) ∨ (compareInt a b = 0 ∧ a = b) ∨ (compareInt a b = 1 ∧ b < a) := by
  unfold compareInt
  by_cases h : a < b
  · rw [if_pos h]; exact .inl ⟨rfl, h⟩
  · by_cases h' : a > b
    · rw [if_neg h, if_pos h']; exact .inr (.inr ⟨rfl, h'⟩)
    · rw [if_neg h, if_neg h']; exact .inr (.inl ⟨rfl, by omega⟩)
def or3 (a b c : Int) : Int := if a ≠ 0 then a else if b ≠ 0 then b else c
def cmp3 (a1 a2 : Int) (a3 : List UInt8) (b1 b2 : Int) (b3 : List UInt8) : Int := or3 (compareInt a1 b1) (compareInt a2 b2) (compareBytes a3 b3)
theorem cmp3_refl (a1 a2 : Int) (a3 : List UInt8) : cmp3 a1 a2 a3 a1 a2 a3 = 0 := by
  have h1 := ci_range a1 a1; have h2 := ci_range a2 a2
  have e1 : compareInt a1 a1 = 0 := by omega
  have e2 : compareInt a2 a2 = 0 := by omega
  simp [cmp3, or3, e1, e2, cb_refl]
theorem cmp3_swap (a1 a2 : Int) (a3 : List UInt8) (b1 b2 : Int) (b3 : List UInt8) : cmp3 a1 a2 a3 b1 b2 b3 = - cmp3 b1 b2 b3 a1 a2 a3 := by
  have h1 := ci_range a1 b1; have h2 := ci_range a2 b2; have h3 := ci_range b1 a1; have h4 := ci_range b2 a2; have h5 := cb_swap a3 b3
  unfold cmp3 or3
  by_cases e1 : compareInt a1 b1 = 0
  · have e3 : compareInt b1 a1 = 0 := by omega
    simp only [e1, e3, ne_eq, not_true_eq_false, if_false]
    by_cases e2 : compareInt a2 b2 = 0
    · have e4 : compareInt b2 a2 = 0 := by omega
      simp only [e2, e4, not_true_eq_false, if_false]; exact h5
    · have e4 : compareInt b2 a2 ≠ 0 := by omega
      rw [if_pos e2, if_pos e4]; omega
  · have e3 : compareInt b1 a1 ≠ 0 := by omega
    rw [if_pos e1, if_pos e3]; omega
theorem cmp3_eq {a1 a2 : Int} {a3 : List UInt8} {b1 b2 : Int} {b3 : List UInt8} (h : cmp3 a1 a2 a3 b1 b2 b3 = 0) : a1 = b1 ∧ a2 = b2 ∧ a3 = b3 := by
  have h1 := ci_range a1 b1; have h2 := ci_range a2 b2
  unfold cmp3 or3 at h
  split at h
  · omega
  · split at h
    · omega
    · exact ⟨by omega, by omega, cb_eq _ _ h⟩
theorem cmp3_trans {a1 a2 : Int} {a3 : List UInt8} {b1 b2 : Int} {b3 : List UInt8} {c1 c2 : Int} {c3 : List UInt8} (h : cmp3 a1 a2 a3 b1 b2 b3 ≤ 0) (h' : cmp3 b1 b2 b3 c1 c2 c3 ≤ 0) : cmp3 a1 a2 a3 c1 c2 c3 ≤ 0 := by
  have h1 := ci_range a1 b1; have h2 := ci_range a2 b2; have h3 := ci_range b1 c1; have h4 := ci_range b2 c2; have h5 := ci_range a1 c1; have h6 := ci_range a2 c2
  have h7 := cb_le_trans a3 b3 c3
  have r1 := cb_range a3 b3; have r2 := cb_range b3 c3; have r3 := cb_range a3 c3
  unfold cmp3 or3 at *
  split at h <;> split at h' <;> split <;> (try omega)
  all_goals split at h <;> (try omega)
  all_goals (split at h' <;> (try omega))
  all_goals (split <;> omega)
end Go.Proofs.Ytmpbpgbhohefeaa.Ag
end
section
namespace Go.Proofs.Ytmpbpgbhohefeaa.Ag
open Go.RowKit Go.Maps Go.Proofs.YtmpbpgbhohefeaaW.PrintWords Go.Proofs.YtmpbpgbhohefeaaW.PrintLast Go.Proofs.YtmpbpgbhohefeaaW.PrintMore
set_option linter.unusedVariables false
set_option linter.unusedSimpArgs false
theorem mt_cell {w w' : World} {b : Nat} (h : w.mapTurned w' b) (a : Addr) : w'.cell? a = w.cell? a := by
  obtain ⟨es, clock, es', clock', hb, rfl⟩ := h
  exact cell_setBlock hb ⟨_, _, rfl⟩ a
theorem wf_wrap (x : Int) : (Lit.int .i64 (wrap64 x)).wf = true := by
  have h1 : -9223372036854775808 ≤ wrap64 x := by unfold wrap64; omega
  have h2 : wrap64 x ≤ 9223372036854775807 := by unfold wrap64; omega
  simp only [Lit.wf, Bool.and_eq_true, decide_eq_true_eq]
  simp [IntKind.min, IntKind.max, IntKind.signed, IntKind.bits]
  omega
set_option maxHeartbeats 8000000 in
set_option maxRecDepth 100000 in
theorem put_calls (b n : Nat) (f : V → Int) (v : V) (d : Int) (w : World) (h : Bag w b n f) (hn : n < maxLen) :
    Calls Try.prog 20 #[.map (some b), encV v, .int .i64 d] w fun e w' => e = .returned (.tuple #[]) ∧ Bag w' b (n + 1) (set f v (wrap64 (f v + d))) ∧ Ch (fun k => k = b) w w' := by
  have hu43 := Try.underlying43
  have HC := Aside0.mk (Ch.refl (fun k => k = b) w)
  go_enter Try.func20, Try.ntmps20
  go_upto_region 1 with (fail)
  obtain ⟨c, hc⟩ : ∃ c, c = wrap64 (f v + d) := ⟨_, rfl⟩
  have hcw : (Lit.int .i64 c).wf = true := by rw [hc]; exact wf_wrap _
  have hv0 : f v + d = f v + d := rfl
  obtain ⟨W, hW⟩ : ∃ W, w.alloc (.cells #[.int .i64 v.k, .int .i64 v.n, .string v.s] 43) = W := ⟨_, rfl⟩
  have hbl : b < w.heap.size := h.lt
  have hc0 : W.cell? ⟨w.heap.size, 0, none⟩ = some (.int .i64 v.k) := by rw [← hW]; simp
  have hc1 : W.cell? ⟨w.heap.size, 1, none⟩ = some (.int .i64 v.n) := by rw [← hW]; simp
  have hc2 : W.cell? ⟨w.heap.size, 2, none⟩ = some (.string v.s) := by rw [← hW]; simp
  have hB : Bag W b n f := by rw [← hW]; exact h.below (below_alloc (Below.refl _ _) _)
  have HW : Aside0 (Ch (fun k => k = b) w W) := ⟨by rw [← hW]; exact (Ch.refl _ _).alloc _⟩
  rw [hW]
  generalize w.heap.size = g at hc0 hc1 hc2 hbl
  clear hW h HC
  obtain ⟨v0, st, w1, e1, t1, l1, q1, e2⟩ := (Bag.same (w1 := W.drew) hB rfl).entry v hn
  obtain ⟨w2, e3, hA, t2⟩ := e2 c hcw
  have hl2 := hA.look v
  have hset : set f v c v = c := by unfold set; rw [if_pos rfl]
  rw [hset] at hl2
  have hl0 := (Bag.same (w1 := W.drew) hB rfl).look v
  have HL := Aside0.mk hl0
  have HE := Aside0.mk e1
  have HL1 := Aside0.mk l1
  have HE3 := Aside0.mk e3
  have HQ := Aside0.mk q1
  have HL2 := Aside0.mk hl2
  have HT := Aside0.mk t2
  have HA := Aside0.mk hA
  have HCV := Aside0.mk hc
  clear e1 l1 e3 q1 hl2 t2 hA hc hl0 e2 t1 hB hset hcw hv0

  refine start_ (n := 8) (S := fun w' => w'.cell? ⟨g, 0, none⟩ = some (.int .i64 v.k) ∧ w'.cell? ⟨g, 1, none⟩ = some (.int .i64 v.n) ∧ w'.cell? ⟨g, 2, none⟩ = some (.string v.s) ∧ Sem.run Try.prog (Instr.lookup 54 (.map (some b)) (.agg #[.int .i64 v.k, .int .i64 v.n, .string v.s]) false) w' = .ok (.int .i64 (f v)) w') (ds := [7]) #[false, false, false, false, false, false, false, false] (by kernel_rfl) rfl rfl ⟨hc0, hc1, hc2, HL.out⟩ (fun hHeld => ?_)
  refine pure_ (i := 0) (N := some 6) (v := ?_) (a' := ?_) #[true, false, false, false, false, false, false, false] rfl rfl (by kernel_rfl) (fun _ _ _ h => h) (Or.inl ⟨by rfl, ?_⟩) ?_ ?_
  rotate_left
  · intro w'
    go_simp
    with_reducible rfl
  rotate_left
  · simp only [Act.put, List.setIfInBounds_toArray, List.set_cons_zero, List.set_cons_succ, i64_w, i32_w]
    rfl
  refine take_ (i := 1) (N := some 7) (v := ?_) (a' := ?_) #[true, true, false, false, false, false, false, false] rfl rfl (by kernel_rfl) (fun _ _ _ h => h) (Or.inl ⟨by rfl, ?_⟩) hHeld ?_ ?_
  rotate_left
  · rintro w' ⟨s0, s1, s2, s3⟩
    go_simp
    with_reducible rfl
  rotate_left
  · simp only [Act.put, List.setIfInBounds_toArray, List.set_cons_zero, List.set_cons_succ, i64_w, i32_w]
    rfl
  refine take_ (i := 2) (N := some 8) (v := ?_) (a' := ?_) #[true, true, true, false, false, false, false, false] rfl rfl (by kernel_rfl) (fun _ _ _ h => h) (Or.inl ⟨by rfl, ?_⟩) hHeld ?_ ?_
  rotate_left
  · rintro w' ⟨s0, s1, s2, s3⟩
    go_simp
    with_reducible rfl
  rotate_left
  · simp only [Act.put, List.setIfInBounds_toArray, List.set_cons_zero, List.set_cons_succ, i64_w, i32_w]
    rfl
  refine pure_ (i := 3) (N := some 9) (v := ?_) (a' := ?_) #[true, true, true, true, false, false, false, false] rfl rfl (by kernel_rfl) (fun _ _ _ h => h) (Or.inl ⟨by rfl, ?_⟩) ?_ ?_
  rotate_left
  · intro w'
    go_simp
    with_reducible rfl
  rotate_left
  · simp only [Act.put, List.setIfInBounds_toArray, List.set_cons_zero, List.set_cons_succ, i64_w, i32_w]
    rfl
  refine pure_ (i := 4) (N := some 10) (v := ?_) (a' := ?_) #[true, true, true, true, true, false, false, false] rfl rfl (by kernel_rfl) (fun _ _ _ h => h) (Or.inl ⟨by rfl, ?_⟩) ?_ ?_
  rotate_left
  · intro w'
    go_simp
    with_reducible rfl
  rotate_left
  · simp only [Act.put, List.setIfInBounds_toArray, List.set_cons_zero, List.set_cons_succ, i64_w, i32_w]
    rfl
  refine one_ (i := 5) (N := some 11) #[true, true, true, true, true, true, false, false] rfl rfl (by kernel_rfl) (by decide) (fun K hK => ?_)
  refine value_ (v := .tuple #[v0, goInt st]) (w1 := w1) rfl rfl ?_ ?_
  · have h_ := HE.out
    go_simp
  refine hK.out _ _ ⟨(HQ.out _).trans hc0, (HQ.out _).trans hc1, (HQ.out _).trans hc2, HL1.out⟩ (fun hHeld => ?_)
  clear hK K
  refine norm_ (a' := ?_) ?_ ?_
  rotate_left
  · show Act.put _ (some 11) _ = _
    simp only [Act.put, List.setIfInBounds_toArray, List.set_cons_zero, List.set_cons_succ, i64_w, i32_w]
    rfl
  refine pure_ (i := 6) (N := some 12) (v := ?_) (a' := ?_) #[true, true, true, true, true, true, true, false] rfl rfl (by kernel_rfl) (fun _ _ _ h => h) (Or.inl ⟨by rfl, ?_⟩) ?_ ?_
  rotate_left
  · intro w'
    go_simp
    with_reducible rfl
  rotate_left
  · simp only [Act.put, List.setIfInBounds_toArray, List.set_cons_zero, List.set_cons_succ, i64_w, i32_w]
    rfl
  refine last_ (i := 7) (N := none) #[true, true, true, true, true, true, true, true] rfl rfl (by kernel_rfl) (by decide) (fun K hK => ?_)
  refine skip_ (w1 := w2) rfl rfl ?_ ?_
  · have h_ := HE3.out
    rw [HCV.out] at h_
    simp only [goInt] at h_
    go_simp
  refine hK.out _ _ ?_
  clear hK K
  refine done_ (by kernel_rfl) ?_
  have hq0 : w2.cell? ⟨g, 0, none⟩ = some (.int .i64 v.k) := (mt_cell HT.out _).trans hc0
  have hq1 : w2.cell? ⟨g, 1, none⟩ = some (.int .i64 v.n) := (mt_cell HT.out _).trans hc1
  have hq2 : w2.cell? ⟨g, 2, none⟩ = some (.string v.s) := (mt_cell HT.out _).trans hc2
  have HM : Aside0 (Ch (fun k => k = b) w w2) := ⟨HW.out.trans ((Ch.refl _ W).drew.trans (Ch.grown HT.out.grown (fun k e => (Option.some.inj e).symm)))⟩
  have hl2 := HL2.out
  clear hc0 hc1 hc2 hHeld
  rw [← HCV.out]
  by_cases hz : c = 0
  · obtain ⟨w3, e4, hB3, t3⟩ := HA.out.drop (by unfold set; rw [if_pos rfl]; exact hz) 0
    have HB3 := Aside0.mk hB3
    have HM3 : Aside0 (Ch (fun k => k = b) w w3) := ⟨HM.out.trans (Ch.grown t3.grown (fun k e => (Option.some.inj e).symm))⟩
    have zb : (c == 0) = true := beq_iff_eq.mpr hz
    clear hz hB3 t3
    go_wp2
    go_end0
    exact ⟨rfl, by have h_ := HB3.out; rw [HCV.out] at h_; exact h_, HM3.out⟩
  · have HB3 := Aside0.mk (HA.out.keep (by unfold set; rw [if_pos rfl]; exact hz))
    have zb : (c == 0) = false := beq_eq_false_iff_ne.mpr hz
    clear hz
    go_wp2
    go_end0
    exact ⟨rfl, by have h_ := HB3.out; rw [HCV.out] at h_; exact h_, HM.out⟩
end Go.Proofs.Ytmpbpgbhohefeaa.Ag
end
section
namespace Go.Proofs.Ytmpbpgbhohefeaa.Ag
open Go.RowKit Go.Proofs.YtmpbpgbhohefeaaW.PrintWords Go.Proofs.YtmpbpgbhohefeaaW.PrintLast Go.Proofs.YtmpbpgbhohefeaaW.PrintMore Go.Sort
set_option linter.unusedVariables false
set_option linter.unusedSimpArgs false
set_option maxHeartbeats 1000000 in
set_option maxRecDepth 100000 in
theorem cmpString_calls (a b : ByteArray) (w : World) : Calls Try.prog 50 #[.string a, .string b] w fun e w' => e = .returned (.int .i64 (Lib.compareBytes a.data.toList b.data.toList)) ∧ w' = w := by
  go_enter Try.func50, Try.ntmps50
  go_wp2
  rw [run_callFunc_extern Try.func61 (by kernel_rfl) (by kernel_rfl) (by kernel_rfl) (e := Extern.BytealgCompare.compare) (by kernel_rfl), Lib.run_compareString]
  simp only [Result.andThen]
  rw [Oper.upon_value]
  go_wp2
  go_ret
  exact ⟨rfl, rfl⟩
theorem strCompare_calls (a b : ByteArray) (w : World) : Calls Try.prog 45 #[.string a, .string b] w fun e w' => e = .returned (.int .i64 (Lib.compareBytes a.data.toList b.data.toList)) ∧ w' = w := by
  go_enter Try.func45, Try.ntmps45
  go_wp2_with (go_at_call 50; refine (cmpString_calls _ _ _).mono ?_; rintro e w' ⟨rfl, rfl⟩)
  go_ret
  exact ⟨rfl, rfl⟩
theorem isNaN_calls (x : Int) (w : World) : Calls Try.prog 49 #[.int .i64 x] w fun e w' => e = .returned (.bool false) ∧ w' = w := by
  go_enter Try.func49, Try.ntmps49
  go_wp2
  go_ret
  exact ⟨by simp, rfl⟩
set_option maxHeartbeats 1000000 in
theorem cmpInt_calls (x y : Int) (w : World) : Calls Try.prog 44 #[.int .i64 x, .int .i64 y] w fun e w' => e = .returned (.int .i64 (Lib.compareInt x y)) ∧ w' = w := by
  go_enter Try.func44, Try.ntmps44
  go_wp2_with (go_at_call 49; refine (isNaN_calls _ _).mono ?_; rintro e w' ⟨rfl, hw⟩; rw [hw])
  all_goals (go_ret; refine ⟨?_, rfl⟩; unfold Lib.compareInt; (repeat' split) <;> first | rfl | (exfalso; omega))
set_option maxHeartbeats 4000000 in
set_option maxRecDepth 100000 in
theorem cmpOr_calls (g : Nat) (a b c : Int) (w : World) (h0 : w.cell? ⟨g, 0, none⟩ = some (.int .i64 a)) (h1 : w.cell? ⟨g, 1, none⟩ = some (.int .i64 b)) (h2 : w.cell? ⟨g, 2, none⟩ = some (.int .i64 c)) :
    Calls Try.prog 43 #[.slice (some ⟨g, 0, none⟩) 3 3] w fun e w' => e = .returned (.int .i64 (or3 a b c)) ∧ w' = w := by
  obtain ⟨r, hr⟩ : ∃ r, r = or3 a b c := ⟨_, rfl⟩
  rw [← hr]
  have HR := Aside0.mk hr
  clear hr
  have i3 : (3 : Int) = 3 := rfl
  go_enter Try.func43, Try.ntmps43
  go_wp2
  go_loop [8] (fun v8 => ∃ i : Nat, i ≤ 3 ∧ v8 = .int .i64 i ∧ Aside0 (1 ≤ i → a = 0) ∧ Aside0 (2 ≤ i → b = 0) ∧ Aside0 (3 ≤ i → c = 0)) (fun v8 => 3 - (intOf v8).toNat)
  case atStart => exact ⟨0, by omega, rfl, ⟨fun h => by omega⟩, ⟨fun h => by omega⟩, ⟨fun h => by omega⟩⟩
  case round =>
    obtain ⟨i, hi, rfl, H1, H2, H3⟩ := hrel
    match i, hi, H1, H2, H3 with
    | 0, _, H1, H2, H3 =>
      by_cases z : a = 0
      · have zb : (a != 0) = false := by simp [z]
        have Z := Aside0.mk z
        clear z
        go_wp2
        go_round
        case rel => exact ⟨1, by omega, rfl, ⟨fun _ => Z.out⟩, ⟨fun h => by omega⟩, ⟨fun h => by omega⟩⟩
        case measure => simp [intOf]
      · have zb : (a != 0) = true := by simp [z]
        have e : r = a := by rw [HR.out]; simp [or3, z]
        subst e
        clear z
        go_wp2
        go_ret
        exact ⟨rfl, rfl⟩
    | 1, _, H1, H2, H3 =>
      have za := H1.out (by omega)
      by_cases z : b = 0
      · have zb : (b != 0) = false := by simp [z]
        have Z := Aside0.mk z
        have ZA := Aside0.mk za
        clear z za
        go_wp2
        go_round
        case rel => exact ⟨2, by omega, rfl, ⟨fun _ => ZA.out⟩, ⟨fun _ => Z.out⟩, ⟨fun h => by omega⟩⟩
        case measure => simp [intOf]
      · have zb : (b != 0) = true := by simp [z]
        have e : r = b := by rw [HR.out]; simp [or3, z, za]
        subst e
        clear z za
        go_wp2
        go_ret
        exact ⟨rfl, rfl⟩
    | 2, _, H1, H2, H3 =>
      have za := H1.out (by omega)
      have zc := H2.out (by omega)
      by_cases z : c = 0
      · have zb : (c != 0) = false := by simp [z]
        have Z := Aside0.mk z
        have ZA := Aside0.mk za
        have ZC := Aside0.mk zc
        clear z za zc
        go_wp2
        go_round
        case rel => exact ⟨3, by omega, rfl, ⟨fun _ => ZA.out⟩, ⟨fun _ => ZC.out⟩, ⟨fun _ => Z.out⟩⟩
        case measure => simp [intOf]
      · have zb : (c != 0) = true := by simp [z]
        have e : r = c := by rw [HR.out]; simp [or3, z, za, zc]
        subst e
        clear z za zc
        go_wp2
        go_ret
        exact ⟨rfl, rfl⟩
    | 3, _, H1, H2, H3 =>
      have e : r = 0 := by rw [HR.out]; simp [or3, H1.out, H2.out, H3.out]
      subst e
      go_wp2
      go_ret
      exact ⟨rfl, rfl⟩
theorem new3 (w : World) (a b c : Value) (t : TypeId) : (w.alloc (.cells #[a, b, c] t)).cell? ⟨w.heap.size, 0, none⟩ = some a ∧ (w.alloc (.cells #[a, b, c] t)).cell? ⟨w.heap.size, 1, none⟩ = some b ∧ (w.alloc (.cells #[a, b, c] t)).cell? ⟨w.heap.size, 2, none⟩ = some c := by simp
theorem cell_alloc_below {w : World} (o : Obj) {a : Addr} {v : Value} (h : w.cell? a = some v) : (w.alloc o).cell? a = some v := (World.cell?_alloc_lt _ _ _ (World.block_lt_of_cell? w _ h)).trans h
theorem grow_drew_grow (w : World) (os os' : Array Obj) : grow (grow w os).drew os' = grow (w.drewN 1) (os ++ os') := by
  unfold grow
  rw [← Array.append_assoc]
  rfl
def cf (a b : V) : Int := cmp3 a.k a.n a.s.data.toList b.k b.n b.s.data.toList
set_option maxHeartbeats 8000000 in
set_option maxRecDepth 100000 in
theorem compare_calls (x y : V) (w : World) : Calls Try.prog 39 #[encV x, encV y] w fun e w' => e = .returned (.int .i64 (cf x y)) ∧ ∃ q os', w' = grow (w.drewN q) os' := by
  have hu43 := Try.underlying43
  go_enter Try.func39, Try.ntmps39
  go_upto_region 1 with (fail)
  obtain ⟨W, hW⟩ : ∃ W, (w.alloc (.cells #[.int .i64 x.k, .int .i64 x.n, .string x.s] 43)).alloc (.cells #[.int .i64 y.k, .int .i64 y.n, .string y.s] 43) = W := ⟨_, rfl⟩
  have hc0 : W.cell? ⟨w.heap.size, 0, none⟩ = some (.int .i64 x.k) := by rw [← hW]; simp
  have hc1 : W.cell? ⟨w.heap.size, 1, none⟩ = some (.int .i64 x.n) := by rw [← hW]; simp
  have hc2 : W.cell? ⟨w.heap.size, 2, none⟩ = some (.string x.s) := by rw [← hW]; simp
  have hd0 : W.cell? ⟨w.heap.size + 1, 0, none⟩ = some (.int .i64 y.k) := by rw [← hW]; simp
  have hd1 : W.cell? ⟨w.heap.size + 1, 1, none⟩ = some (.int .i64 y.n) := by rw [← hW]; simp
  have hd2 : W.cell? ⟨w.heap.size + 1, 2, none⟩ = some (.string y.s) := by rw [← hW]; simp
  have HG := Aside0.mk (show ∃ os, W = grow w os from ⟨_, by rw [← hW, alloc_eq_grow, alloc_eq_grow, grow_grow]⟩)
  have hsz := Aside0.mk (show W.heap.size = w.heap.size + 2 by rw [← hW]; simp)
  rw [hW]
  obtain ⟨g, hg⟩ : ∃ g, w.heap.size = g := ⟨_, rfl⟩
  rw [hg] at hc0 hc1 hc2 hd0 hd1 hd2 hsz ⊢
  obtain ⟨g2, hg2⟩ : ∃ g2, g + 1 = g2 := ⟨_, rfl⟩
  rw [hg2] at hd0 hd1 hd2 ⊢
  have HSZ : Aside0 (g < W.heap.size ∧ g2 < W.heap.size) := ⟨by have := hsz.out; omega⟩
  clear hW hg hg2 hsz
  obtain ⟨r1, h1⟩ : ∃ r, r = Lib.compareInt x.k y.k := ⟨_, rfl⟩
  obtain ⟨r2, h2⟩ : ∃ r, r = Lib.compareInt x.n y.n := ⟨_, rfl⟩
  obtain ⟨r3, h3⟩ : ∃ r, r = Lib.compareBytes x.s.data.toList y.s.data.toList := ⟨_, rfl⟩
  have hr : or3 r1 r2 r3 = cf x y := by rw [h1, h2, h3]; rfl
  have c1 := fun W' => cmpInt_calls x.k y.k W'
  have c2 := fun W' => cmpInt_calls x.n y.n W'
  have c3 := fun W' => strCompare_calls x.s y.s W'
  rw [← h1] at c1
  rw [← h2] at c2
  rw [← h3] at c3
  have C1 := Aside0.mk c1
  have C2 := Aside0.mk c2
  have C3 := Aside0.mk c3
  have HRR := Aside0.mk hr
  clear c1 c2 c3 h1 h2 h3 hr
  refine start_ (n := 18) (S := fun w' => w'.cell? ⟨g, 0, none⟩ = some (.int .i64 x.k) ∧ w'.cell? ⟨g, 1, none⟩ = some (.int .i64 x.n) ∧ w'.cell? ⟨g, 2, none⟩ = some (.string x.s) ∧ w'.cell? ⟨g2, 0, none⟩ = some (.int .i64 y.k) ∧ w'.cell? ⟨g2, 1, none⟩ = some (.int .i64 y.n) ∧ w'.cell? ⟨g2, 2, none⟩ = some (.string y.s)) (ds := []) #[false, false, false, false, false, false, false, false, false, false, false, false, false, false, false, false, false, false] (by kernel_rfl) rfl rfl ⟨hc0, hc1, hc2, hd0, hd1, hd2⟩ (fun hHeld => ?_)
  refine pure_ (i := 0) (N := some 5) (v := ?_) (a' := ?_) #[true, false, false, false, false, false, false, false, false, false, false, false, false, false, false, false, false, false] rfl rfl (by kernel_rfl) (fun _ _ _ h => h) (Or.inl ⟨by rfl, ?_⟩) ?_ ?_
  rotate_left
  · intro w'
    go_simp
    with_reducible rfl
  rotate_left
  · simp only [Act.put, List.setIfInBounds_toArray, List.set_cons_zero, List.set_cons_succ, i64_w, i32_w]
    rfl
  refine pure_ (i := 2) (N := some 7) (v := ?_) (a' := ?_) #[true, false, true, false, false, false, false, false, false, false, false, false, false, false, false, false, false, false] rfl rfl (by kernel_rfl) (fun _ _ _ h => h) (Or.inl ⟨by rfl, ?_⟩) ?_ ?_
  rotate_left
  · intro w'
    go_simp
    with_reducible rfl
  rotate_left
  · simp only [Act.put, List.setIfInBounds_toArray, List.set_cons_zero, List.set_cons_succ, i64_w, i32_w]
    rfl
  refine pure_ (i := 5) (N := some 10) (v := ?_) (a' := ?_) #[true, false, true, false, false, true, false, false, false, false, false, false, false, false, false, false, false, false] rfl rfl (by kernel_rfl) (fun _ _ _ h => h) (Or.inl ⟨by rfl, ?_⟩) ?_ ?_
  rotate_left
  · intro w'
    go_simp
    with_reducible rfl
  rotate_left
  · simp only [Act.put, List.setIfInBounds_toArray, List.set_cons_zero, List.set_cons_succ, i64_w, i32_w]
    rfl
  refine pure_ (i := 7) (N := some 12) (v := ?_) (a' := ?_) #[true, false, true, false, false, true, false, true, false, false, false, false, false, false, false, false, false, false] rfl rfl (by kernel_rfl) (fun _ _ _ h => h) (Or.inl ⟨by rfl, ?_⟩) ?_ ?_
  rotate_left
  · intro w'
    go_simp
    with_reducible rfl
  rotate_left
  · simp only [Act.put, List.setIfInBounds_toArray, List.set_cons_zero, List.set_cons_succ, i64_w, i32_w]
    rfl
  refine pure_ (i := 10) (N := some 15) (v := ?_) (a' := ?_) #[true, false, true, false, false, true, false, true, false, false, true, false, false, false, false, false, false, false] rfl rfl (by kernel_rfl) (fun _ _ _ h => h) (Or.inl ⟨by rfl, ?_⟩) ?_ ?_
  rotate_left
  · intro w'
    go_simp
    with_reducible rfl
  rotate_left
  · simp only [Act.put, List.setIfInBounds_toArray, List.set_cons_zero, List.set_cons_succ, i64_w, i32_w]
    rfl
  refine pure_ (i := 12) (N := some 17) (v := ?_) (a' := ?_) #[true, false, true, false, false, true, false, true, false, false, true, false, true, false, false, false, false, false] rfl rfl (by kernel_rfl) (fun _ _ _ h => h) (Or.inl ⟨by rfl, ?_⟩) ?_ ?_
  rotate_left
  · intro w'
    go_simp
    with_reducible rfl
  rotate_left
  · simp only [Act.put, List.setIfInBounds_toArray, List.set_cons_zero, List.set_cons_succ, i64_w, i32_w]
    rfl
  refine take_ (i := 1) (N := some 6) (v := ?_) (a' := ?_) #[true, true, true, false, false, true, false, true, false, false, true, false, true, false, false, false, false, false] rfl rfl (by kernel_rfl) (fun _ _ _ h => h) (Or.inl ⟨by rfl, ?_⟩) hHeld ?_ ?_
  rotate_left
  · rintro w' ⟨s0, s1, s2, s3, s4, s5⟩
    go_simp
    with_reducible rfl
  rotate_left
  · simp only [Act.put, List.setIfInBounds_toArray, List.set_cons_zero, List.set_cons_succ, i64_w, i32_w]
    rfl
  refine take_ (i := 3) (N := some 8) (v := ?_) (a' := ?_) #[true, true, true, true, false, true, false, true, false, false, true, false, true, false, false, false, false, false] rfl rfl (by kernel_rfl) (fun _ _ _ h => h) (Or.inl ⟨by rfl, ?_⟩) hHeld ?_ ?_
  rotate_left
  · rintro w' ⟨s0, s1, s2, s3, s4, s5⟩
    go_simp
    with_reducible rfl
  rotate_left
  · simp only [Act.put, List.setIfInBounds_toArray, List.set_cons_zero, List.set_cons_succ, i64_w, i32_w]
    rfl
  refine take_ (i := 6) (N := some 11) (v := ?_) (a' := ?_) #[true, true, true, true, false, true, true, true, false, false, true, false, true, false, false, false, false, false] rfl rfl (by kernel_rfl) (fun _ _ _ h => h) (Or.inl ⟨by rfl, ?_⟩) hHeld ?_ ?_
  rotate_left
  · rintro w' ⟨s0, s1, s2, s3, s4, s5⟩
    go_simp
    with_reducible rfl
  rotate_left
  · simp only [Act.put, List.setIfInBounds_toArray, List.set_cons_zero, List.set_cons_succ, i64_w, i32_w]
    rfl
  refine take_ (i := 8) (N := some 13) (v := ?_) (a' := ?_) #[true, true, true, true, false, true, true, true, true, false, true, false, true, false, false, false, false, false] rfl rfl (by kernel_rfl) (fun _ _ _ h => h) (Or.inl ⟨by rfl, ?_⟩) hHeld ?_ ?_
  rotate_left
  · rintro w' ⟨s0, s1, s2, s3, s4, s5⟩
    go_simp
    with_reducible rfl
  rotate_left
  · simp only [Act.put, List.setIfInBounds_toArray, List.set_cons_zero, List.set_cons_succ, i64_w, i32_w]
    rfl
  refine take_ (i := 11) (N := some 16) (v := ?_) (a' := ?_) #[true, true, true, true, false, true, true, true, true, false, true, true, true, false, false, false, false, false] rfl rfl (by kernel_rfl) (fun _ _ _ h => h) (Or.inl ⟨by rfl, ?_⟩) hHeld ?_ ?_
  rotate_left
  · rintro w' ⟨s0, s1, s2, s3, s4, s5⟩
    go_simp
    with_reducible rfl
  rotate_left
  · simp only [Act.put, List.setIfInBounds_toArray, List.set_cons_zero, List.set_cons_succ, i64_w, i32_w]
    rfl
  refine take_ (i := 13) (N := some 18) (v := ?_) (a' := ?_) #[true, true, true, true, false, true, true, true, true, false, true, true, true, true, false, false, false, false] rfl rfl (by kernel_rfl) (fun _ _ _ h => h) (Or.inl ⟨by rfl, ?_⟩) hHeld ?_ ?_
  rotate_left
  · rintro w' ⟨s0, s1, s2, s3, s4, s5⟩
    go_simp
    with_reducible rfl
  rotate_left
  · simp only [Act.put, List.setIfInBounds_toArray, List.set_cons_zero, List.set_cons_succ, i64_w, i32_w]
    rfl
  refine one_ (i := 4) (N := some 9) #[true, true, true, true, true, true, true, true, true, false, true, true, true, true, false, false, false, false] rfl rfl (by kernel_rfl) (by decide) (fun K hK => ?_)
  refine goes_ Try.func44 (by kernel_rfl) rfl #[.int .i64 x.k, .int .i64 y.k] (by rfl) rfl rfl (by (try simp only [List.map_toArray, List.map_cons, List.map_nil]); first | done | rfl) ?_
  refine (C1.out _).mono ?_
  rintro e w' ⟨rfl, rfl⟩
  refine ⟨_, rfl, ?_⟩
  refine hK.out _ _ hHeld (fun hHeld => ?_)
  clear hK K
  refine norm_ (a' := ?_) ?_ ?_
  rotate_left
  · show Act.put _ (some 9) _ = _
    simp only [Act.put, List.setIfInBounds_toArray, List.set_cons_zero, List.set_cons_succ, i64_w, i32_w]
    rfl
  refine one_ (i := 9) (N := some 14) #[true, true, true, true, true, true, true, true, true, true, true, true, true, true, false, false, false, false] rfl rfl (by kernel_rfl) (by decide) (fun K hK => ?_)
  refine goes_ Try.func44 (by kernel_rfl) rfl #[.int .i64 x.n, .int .i64 y.n] (by rfl) rfl rfl (by (try simp only [List.map_toArray, List.map_cons, List.map_nil]); first | done | rfl) ?_
  refine (C2.out _).mono ?_
  rintro e w' ⟨rfl, rfl⟩
  refine ⟨_, rfl, ?_⟩
  refine hK.out _ _ hHeld (fun hHeld => ?_)
  clear hK K
  refine norm_ (a' := ?_) ?_ ?_
  rotate_left
  · show Act.put _ (some 14) _ = _
    simp only [Act.put, List.setIfInBounds_toArray, List.set_cons_zero, List.set_cons_succ, i64_w, i32_w]
    rfl
  refine one_ (i := 14) (N := some 19) #[true, true, true, true, true, true, true, true, true, true, true, true, true, true, true, false, false, false] rfl rfl (by kernel_rfl) (by decide) (fun K hK => ?_)
  refine goes_ Try.func45 (by kernel_rfl) rfl #[.string x.s, .string y.s] (by rfl) rfl rfl (by (try simp only [List.map_toArray, List.map_cons, List.map_nil]); first | done | rfl) ?_
  refine (C3.out _).mono ?_
  rintro e w' ⟨rfl, rfl⟩
  refine ⟨_, rfl, ?_⟩
  refine hK.out _ _ hHeld (fun hHeld => ?_)
  clear hK K
  refine norm_ (a' := ?_) ?_ ?_
  rotate_left
  · show Act.put _ (some 19) _ = _
    simp only [Act.put, List.setIfInBounds_toArray, List.set_cons_zero, List.set_cons_succ, i64_w, i32_w]
    rfl
  refine one_ (i := 15) (N := some 20) #[true, true, true, true, true, true, true, true, true, true, true, true, true, true, true, true, false, false] rfl rfl (by kernel_rfl) (by decide) (fun K hK => ?_)
  refine value_ (v := .slice (some ⟨W.drew.heap.size, 0, none⟩) 3 3) (w1 := W.drew.alloc (.cells #[.int .i64 r1, .int .i64 r2, .int .i64 r3] 3)) rfl rfl ?_ ?_
  · first | (go_simp; done) | (go_simp; rfl)
  refine hK.out _ _ ⟨cell_alloc_below _ hHeld.1, cell_alloc_below _ hHeld.2.1, cell_alloc_below _ hHeld.2.2.1, cell_alloc_below _ hHeld.2.2.2.1, cell_alloc_below _ hHeld.2.2.2.2.1, cell_alloc_below _ hHeld.2.2.2.2.2⟩ (fun hHeld => ?_)
  clear hK K
  refine norm_ (a' := ?_) ?_ ?_
  rotate_left
  · show Act.put _ (some 20) _ = _
    simp only [Act.put, List.setIfInBounds_toArray, List.set_cons_zero, List.set_cons_succ, i64_w, i32_w]
    rfl
  refine one_ (i := 16) (N := some 21) #[true, true, true, true, true, true, true, true, true, true, true, true, true, true, true, true, true, false] rfl rfl (by kernel_rfl) (by decide) (fun K hK => ?_)
  refine goes_ Try.func43 (by kernel_rfl) rfl #[.slice (some ⟨W.drew.heap.size, 0, none⟩) 3 3] (by rfl) rfl rfl (by (try simp only [List.map_toArray, List.map_cons, List.map_nil]); first | done | rfl) ?_
  refine (cmpOr_calls W.drew.heap.size r1 r2 r3 _ (new3 _ _ _ _ _).1 (new3 _ _ _ _ _).2.1 (new3 _ _ _ _ _).2.2).mono ?_
  rintro e w' ⟨rfl, rfl⟩
  refine ⟨_, rfl, ?_⟩
  refine hK.out _ _ hHeld (fun hHeld => ?_)
  clear hK K
  refine norm_ (a' := ?_) ?_ ?_
  rotate_left
  · show Act.put _ (some 21) _ = _
    simp only [Act.put, List.setIfInBounds_toArray, List.set_cons_zero, List.set_cons_succ, i64_w, i32_w]
    rfl
  refine pure_ (i := 17) (N := some 4) (v := ?_) (a' := ?_) #[true, true, true, true, true, true, true, true, true, true, true, true, true, true, true, true, true, true] rfl rfl (by kernel_rfl) (fun _ _ _ h => h) (Or.inl ⟨by rfl, ?_⟩) ?_ ?_
  rotate_left
  · intro w'
    go_simp
    with_reducible rfl
  rotate_left
  · simp only [Act.put, List.setIfInBounds_toArray, List.set_cons_zero, List.set_cons_succ, i64_w, i32_w]
    rfl
  refine done_ (by kernel_rfl) ?_
  try go_wp2
  go_ret
  obtain ⟨os, rfl⟩ := HG.out
  rw [HRR.out]
  exact ⟨rfl, 1, _, by rw [alloc_eq_grow]; exact grow_drew_grow _ _ _⟩
end Go.Proofs.Ytmpbpgbhohefeaa.Ag
end
section
namespace Go.Proofs.Ytmpbpgbhohefeaa.Ag
open Go.Shelf
def sortV_ren : Go.Shelf.Ren := ⟨fun | 6 => 41 | 15 => 48 | 14 => 47 | 28 => 59 | 29 => 60 | 20 => 51 | 21 => 52 | 22 => 53 | 23 => 54 | 24 => 55 | 25 => 56 | 26 => 57 | 27 => 58 | 46 => 62 | 47 => 63 | 48 => 64 | 49 => 65 | 50 => 66 | 57 => 67 | n => n, fun | 22 => 37 | 24 => 43 | 25 => 66 | 3 => 3 | 39 => 82 | 0 => 0 | 53 => 92 | 55 => 94 | 4 => 4 | 46 => 85 | 45 => 84 | 50 => 89 | 5 => 5 | 9 => 9 | 66 => 95 | 70 => 99 | 76 => 101 | 77 => 102 | n => n, fun | n => n⟩
theorem sortV : Go.Proofs.SlLaysF0.n6 Try.prog sortV_ren := {
  mixed := by kernel_rfl
  f6 := ⟨Try.f41.name, by decide, Try.func41.trans (congrArg some (by kernel_rfl))⟩
  f14 := ⟨Try.f47.name, by decide, Try.func47.trans (congrArg some (by kernel_rfl))⟩
  f15 := Try.func48.trans (congrArg some (by kernel_rfl))
  f20 := ⟨Try.f51.name, by decide, Try.func51.trans (congrArg some (by kernel_rfl))⟩
  f21 := ⟨Try.f52.name, by decide, Try.func52.trans (congrArg some (by kernel_rfl))⟩
  f22 := ⟨Try.f53.name, by decide, Try.func53.trans (congrArg some (by kernel_rfl))⟩
  f23 := ⟨Try.f54.name, by decide, Try.func54.trans (congrArg some (by kernel_rfl))⟩
  f24 := ⟨Try.f55.name, by decide, Try.func55.trans (congrArg some (by kernel_rfl))⟩
  f25 := ⟨Try.f56.name, by decide, Try.func56.trans (congrArg some (by kernel_rfl))⟩
  f26 := ⟨Try.f57.name, by decide, Try.func57.trans (congrArg some (by kernel_rfl))⟩
  f27 := ⟨Try.f58.name, by decide, Try.func58.trans (congrArg some (by kernel_rfl))⟩
  f28 := Try.func59.trans (congrArg some (by kernel_rfl))
  f29 := Try.func60.trans (congrArg some (by kernel_rfl))
  f46 := ⟨Try.f62.name, by decide, Try.func62.trans (congrArg some (by kernel_rfl))⟩
  f47 := Try.func63.trans (congrArg some (by kernel_rfl))
  f48 := Try.func64.trans (congrArg some (by kernel_rfl))
  f49 := ⟨Try.f65.name, by decide, Try.func65.trans (congrArg some (by kernel_rfl))⟩
  f50 := ⟨Try.f66.name, by decide, Try.func66.trans (congrArg some (by kernel_rfl))⟩
  f57 := ⟨Try.f67.name, by decide, Try.func67.trans (congrArg some (by kernel_rfl))⟩
  t0 := Try.underlying0
  a0 := Try.isAgg0
  z0 := Try.sizeOf0
  v0 := Try.zeroValue0
  t3 := Try.underlying3
  a3 := Try.isAgg3
  z3 := Try.sizeOf3
  v3 := Try.zeroValue3
  t4 := Try.underlying4
  a4 := Try.isAgg4
  z4 := Try.sizeOf4
  v4 := Try.zeroValue4
  t5 := Try.underlying5
  a5 := Try.isAgg5
  z5 := Try.sizeOf5
  v5 := Try.zeroValue5
  t9 := Try.underlying9
  a9 := Try.isAgg9
  z9 := Try.sizeOf9
  v9 := Try.zeroValue9
  t22 := Try.underlying37
  a22 := Try.isAgg37
  z22 := Try.sizeOf37
  v22 := Try.zeroValue37
  t25 := Try.underlying66
  a25 := Try.isAgg66
  z25 := Try.sizeOf66
  v25 := Try.zeroValue66
  t39 := Try.underlying82
  a39 := Try.isAgg82
  z39 := Try.sizeOf82
  v39 := Try.zeroValue82
  t45 := Try.underlying84
  a45 := Try.isAgg84
  z45 := Try.sizeOf84
  v45 := Try.zeroValue84
  t46 := Try.underlying85
  a46 := Try.isAgg85
  z46 := Try.sizeOf85
  v46 := Try.zeroValue85
  t50 := Try.underlying89
  a50 := Try.isAgg89
  z50 := Try.sizeOf89
  v50 := Try.zeroValue89
  t53 := Try.underlying92
  a53 := Try.isAgg92
  z53 := Try.sizeOf92
  v53 := Try.zeroValue92
  t55 := Try.underlying94
  a55 := Try.isAgg94
  z55 := Try.sizeOf94
  v55 := Try.zeroValue94
  t66 := Try.underlying95
  a66 := Try.isAgg95
  z66 := Try.sizeOf95
  v66 := Try.zeroValue95
  t70 := Try.underlying99
  a70 := Try.isAgg99
  z70 := Try.sizeOf99
  v70 := Try.zeroValue99
  t76 := Try.underlying101
  a76 := Try.isAgg101
  z76 := Try.sizeOf101
  v76 := Try.zeroValue101
  t77 := Try.underlying102
  a77 := Try.isAgg102
  z77 := Try.sizeOf102
  v77 := Try.zeroValue102 }

def idxV_ren : Go.Shelf.Ren := ⟨fun | 6 => 36 | n => n, fun | 22 => 37 | 23 => 43 | 25 => 44 | 3 => 3 | 0 => 0 | 4 => 4 | n => n, fun | n => n⟩
theorem idxV : Go.Proofs.SlLaysH0.n6 Try.prog idxV_ren := {
  mixed := by kernel_rfl
  f6 := ⟨Try.f36.name, by decide, Try.func36.trans (congrArg some (by kernel_rfl))⟩
  t0 := Try.underlying0
  a0 := Try.isAgg0
  z0 := Try.sizeOf0
  v0 := Try.zeroValue0
  t3 := Try.underlying3
  a3 := Try.isAgg3
  z3 := Try.sizeOf3
  v3 := Try.zeroValue3
  t4 := Try.underlying4
  a4 := Try.isAgg4
  z4 := Try.sizeOf4
  v4 := Try.zeroValue4
  t22 := Try.underlying37
  a22 := Try.isAgg37
  z22 := Try.sizeOf37
  v22 := Try.zeroValue37
  t25 := Try.underlying44
  a25 := Try.isAgg44
  z25 := Try.sizeOf44
  v25 := Try.zeroValue44 }

def conV_ren : Go.Shelf.Ren := ⟨fun | 8 => 34 | 6 => 36 | n => n, fun | 22 => 37 | 23 => 43 | 25 => 44 | 4 => 4 | 3 => 3 | 0 => 0 | n => n, fun | n => n⟩
def cloneG_ren : Go.Shelf.Ren := ⟨fun | 41 => 16 | n => n, fun | 22 => 22 | 23 => 33 | 4 => 4 | n => n, fun | n => n⟩
theorem cloneG : Go.Proofs.SlLaysE0.n41 Try.prog cloneG_ren := {
  mixed := by kernel_rfl
  f41 := ⟨Try.f16.name, by decide, Try.func16.trans (congrArg some (by kernel_rfl))⟩
  t4 := Try.underlying4
  a4 := Try.isAgg4
  z4 := Try.sizeOf4
  v4 := Try.zeroValue4
  t22 := Try.underlying22
  a22 := Try.isAgg22
  z22 := Try.sizeOf22
  v22 := Try.zeroValue22 }

def conI_ren : Go.Shelf.Ren := ⟨fun | 8 => 26 | 6 => 33 | n => n, fun | 22 => 49 | 23 => 3 | 25 => 63 | 4 => 4 | 3 => 3 | 0 => 0 | n => n, fun | n => n⟩
theorem conI : Go.Proofs.SlLaysH.n8 Try.prog conI_ren := {
  mixed := by kernel_rfl
  f6 := ⟨Try.f33.name, by decide, Try.func33.trans (congrArg some (by kernel_rfl))⟩
  f8 := ⟨Try.f26.name, by decide, Try.func26.trans (congrArg some (by kernel_rfl))⟩
  t0 := Try.underlying0
  a0 := Try.isAgg0
  z0 := Try.sizeOf0
  v0 := Try.zeroValue0
  t3 := Try.underlying3
  a3 := Try.isAgg3
  z3 := Try.sizeOf3
  v3 := Try.zeroValue3
  t4 := Try.underlying4
  a4 := Try.isAgg4
  z4 := Try.sizeOf4
  v4 := Try.zeroValue4
  t22 := Try.underlying49
  a22 := Try.isAgg49
  z22 := Try.sizeOf49
  v22 := Try.zeroValue49
  a23 := Try.isAgg3
  z23 := Try.sizeOf3
  t25 := Try.underlying63
  a25 := Try.isAgg63
  z25 := Try.sizeOf63
  v25 := Try.zeroValue63 }


open Go.RowKit Go.Lib Go.Sort Go.Maps Go.Proofs.YtmpbpgbhohefeaaW.PrintWords Go.Proofs.YtmpbpgbhohefeaaW.PrintLast Go.Proofs.YtmpbpgbhohefeaaW.PrintMore
set_option linter.unusedVariables false
theorem flat_get : ∀ (ss : List V) (i c : Nat) (v : V), ss[i]? = some v → c < 3 → (flat ss)[i * 3 + c]? = (cells v)[c]?
  | [], i, c, v, h, _ => by simp at h
  | x :: r, 0, c, v, h, hc => by
    have hx : x = v := by simpa using h
    subst hx
    show (cells x ++ flat r)[0 * 3 + c]? = _
    rw [List.getElem?_append_left (by simp [cells]; omega)]
    simp
  | x :: r, i + 1, c, v, h, hc => by
    show (cells x ++ flat r)[(i + 1) * 3 + c]? = _
    rw [List.getElem?_append_right (by simp [cells]; omega), show (i + 1) * 3 + c - (cells x).length = i * 3 + c by simp [cells]; omega]
    exact flat_get r i c v (by simpa using h) hc
theorem holds_flat {w : World} {g : Nat} {cur : Array Value} {e : TypeId} {ss : List V} (hb : w.heap[g]? = some (.cells cur e (0, 0))) (ht : cur.toList.take (ss.length * 3) = flat ss) : HoldsK cells 3 w g 0 ss.toArray := by
  intro j hj
  have hj' : j < ss.length * 3 := by simpa using hj
  refine ⟨?_, by simp [World.frozen?, hb]⟩
  rw [get_flatK _ _ _ _ (by simpa using hj'), Nat.zero_add]
  have hq : j / 3 < ss.length := by omega
  have hm : j % 3 < 3 := Nat.mod_lt _ (by omega)
  have h2 := flat_get ss (j / 3) (j % 3) ss[j / 3] (List.getElem?_eq_getElem hq) hm
  rw [show j / 3 * 3 + j % 3 = j by omega, ← ht, List.getElem?_take_of_lt hj'] at h2
  simp only [World.cell?, hb]
  rw [Array.getElem?_toList] at h2
  show cur[j]? = _
  rw [h2]
  have e1 : ss.toArray[j / 3]! = ss[j / 3] := by simp [hq]
  rw [e1, List.getElem?_eq_getElem (by simp [cells]; omega)]
  simp [hm, cells]
def VRow (w : World) (g : Nat) (L : List V) : Prop := ∀ i v, L[i]? = some v → w.cell? ⟨g, i * 3, none⟩ = some (.int .i64 v.k) ∧ w.cell? ⟨g, i * 3 + 1, none⟩ = some (.int .i64 v.n) ∧ w.cell? ⟨g, i * 3 + 2, none⟩ = some (.string v.s)
theorem vrow_holds {w : World} {g : Nat} {d : Array V} (h : HoldsK cells 3 w g 0 d) : VRow w g d.toList := by
  intro i v hv
  have hi : i < d.size := by
    rcases Nat.lt_or_ge i d.toList.length with h1 | h1
    · simpa using h1
    · rw [List.getElem?_eq_none h1] at hv; cases hv
  have e1 : d[i]! = v := by
    rw [Array.getElem?_toList] at hv
    rw [getElem!_pos d i hi]
    rw [Array.getElem?_eq_getElem hi] at hv
    exact Option.some.inj hv
  have k0 := (h.cell (c := 0) hi (by omega)).1
  have k1 := (h.cell (c := 1) hi (by omega)).1
  have k2 := (h.cell (c := 2) hi (by omega)).1
  rw [e1] at k0 k1 k2
  simp only [Nat.zero_add, Nat.add_zero] at k0 k1 k2
  exact ⟨k0, k1, k2⟩
theorem VRow.below {w w' : World} {g : Nat} {L : List V} (h : VRow w g L) (hb : Below w.heap.size w w') (hg : g < w.heap.size) : VRow w' g L := fun i v hv =>
  ⟨(hb.cell (p := ⟨g, i * 3, none⟩) hg).trans (h i v hv).1, (hb.cell (p := ⟨g, i * 3 + 1, none⟩) hg).trans (h i v hv).2.1, (hb.cell (p := ⟨g, i * 3 + 2, none⟩) hg).trans (h i v hv).2.2⟩
theorem grownK {w : World} {g n : Nat} {os : Array Obj} (d : Array V) : w.grownBy (sortWorldK cells 3 w g 0 n d os) (some g) := by
  refine ⟨rfl, rfl, rfl, by simp [sortWorldK, putRowK], fun k hk hne => ?_⟩
  unfold sortWorldK putRowK
  rw [heap_grow_old _ _ (by simpa using hk)]
  have : g ≠ k := fun e => hne (by rw [e])
  simp [putRow, mapBlock, Sort.ahead, Array.getElem?_modify, this]
theorem lt_cf (x y : V) : ltOf cf x y = decide (cf x y < 0) := rfl
theorem swo : SWO (ltOf cf) where
  irrefl x := by rw [lt_cf]; simp [cf, cmp3_refl]
  trans x y z h1 h2 := by
    rw [lt_cf] at *
    simp only [decide_eq_true_eq] at *
    have a := cmp3_trans (show cmp3 x.k x.n x.s.data.toList y.k y.n y.s.data.toList ≤ 0 from Int.le_of_lt h1) (show cmp3 y.k y.n y.s.data.toList z.k z.n z.s.data.toList ≤ 0 from Int.le_of_lt h2)
    rcases Int.lt_or_eq_of_le a with h | h
    · exact h
    · exfalso
      obtain ⟨e1, e2, e3⟩ := cmp3_eq h
      have h2' : cmp3 y.k y.n y.s.data.toList x.k x.n x.s.data.toList < 0 := by rw [e1, e2, e3]; exact h2
      have h1' : cmp3 x.k x.n x.s.data.toList y.k y.n y.s.data.toList < 0 := h1
      rw [cmp3_swap] at h2'
      omega
  ntrans x y z h1 h2 := by
    rw [lt_cf] at *
    simp only [decide_eq_false_iff_not, Int.not_lt] at *
    have h1' : 0 ≤ cmp3 x.k x.n x.s.data.toList y.k y.n y.s.data.toList := h1
    have h2' : 0 ≤ cmp3 y.k y.n y.s.data.toList z.k z.n z.s.data.toList := h2
    rw [cmp3_swap] at h1' h2'
    have a := cmp3_trans (show cmp3 z.k z.n z.s.data.toList y.k y.n y.s.data.toList ≤ 0 by omega) (show cmp3 y.k y.n y.s.data.toList x.k x.n x.s.data.toList ≤ 0 by omega)
    show 0 ≤ cmp3 x.k x.n x.s.data.toList z.k z.n z.s.data.toList
    rw [cmp3_swap]
    omega
theorem cmpLays (blk off size : Nat) (w : World) : CmpLays Try.prog 39 #[] cells 3 cf blk off size w := fun _ _ _ _ x y => compare_calls x y _
theorem cells_one (x : V) : ∀ v ∈ cells x, v.oneCell' = true := by intro v hv; simp [cells] at hv; rcases hv with rfl | rfl | rfl <;> rfl
def Asc (L : List V) : Prop := ∀ (i j : Nat) (a b : V), i < j → L[i]? = some a → L[j]? = some b → cf a b ≤ 0
theorem sort_calls (g cap : Nat) (ss : List V) (w : World) (hH : HoldsK cells 3 w g 0 ss.toArray) (hg : g < w.heap.size) (hsz : ss.length < 4611686018427387904) :
    Calls Try.prog 41 #[.slice (some ⟨g, 0, none⟩) ss.length cap, .func (.func 39) #[] #[]] w fun e w' => e = .returned (.tuple #[]) ∧ ∃ L : List V, L.Perm ss ∧ Asc L ∧ VRow w' g L ∧ w.grownBy w' (some g) := by
  have h := AnyQ.slices_SortFunc sortV 3 Try.isAgg43 Try.sizeOf43 cells (fun _ => rfl) cells_one cf swo 39 #[] g 0 cap ss.toArray w (enters_of Try.func39 (by kernel_rfl) rfl) (cmpLays g 0 _ w) hH hg (by simpa using hsz)
  change Calls Try.prog 41 _ _ _ at h
  rw [List.size_toArray] at h
  refine h.mono ?_
  rintro e w' ⟨he, d', n, os, ⟨hs, _, hp⟩, hsort, rfl⟩
  have hs' : d'.size = ss.length := by simpa using hs
  refine ⟨he, d'.toList, ?_, ?_, ?_, grownK d'⟩
  · have e1 : (d'.extract 0 ss.length).toList = d'.toList := by simp [← hs']
    have e2 : (ss.toArray.extract 0 ss.length).toList = ss := by simp
    rw [e1, e2] at hp
    exact hp
  · intro i j a b hij ha hb
    have hj : j < d'.size := by
      rcases Nat.lt_or_ge j d'.toList.length with h1 | h1
      · simpa using h1
      · rw [List.getElem?_eq_none h1] at hb; cases hb
    have h1 := hsort i j (Nat.zero_le _) hij (by simpa [hs'] using hj)
    rw [getElem!_pos d' j hj, getElem!_pos d' i (by omega)] at h1
    rw [Array.getElem?_toList, Array.getElem?_eq_getElem (by omega)] at ha hb
    cases ha; cases hb
    rw [lt_cf] at h1
    simp only [decide_eq_false_iff_not, Int.not_lt] at h1
    have h2 : 0 ≤ cmp3 d'[j].k d'[j].n d'[j].s.data.toList d'[i].k d'[i].n d'[i].s.data.toList := h1
    rw [cmp3_swap] at h2
    show cmp3 _ _ _ _ _ _ ≤ 0
    omega
  · have hd : HoldsK cells 3 (sortWorldK cells 3 w g 0 n d' os) g 0 d' := holdsK_grow cells 3 _ os g 0 d' (by simpa [putRowK] using hg) (holdsK_putRowK cells 3 _ g 0 _ d' (holdsK_ahead cells 3 w n g 0 _ hH) hs)
    exact vrow_holds hd
theorem sort_none (p : Option Addr) (cap : Nat) (fv : Value) (w : World) : Calls Try.prog 41 #[.slice p 0 cap, fv] w fun e w' => e = .returned (.tuple #[]) ∧ w' = w := AnyF.slices_SortFunc_none { sortV with } p cap fv w
end Go.Proofs.Ytmpbpgbhohefeaa.Ag
end
section
namespace Go.Proofs.Ytmpbpgbhohefeaa.Ag
open Go.RowKit Go.Lib Go.Sort Go.Maps Go.Shelf Go.Proofs.YtmpbpgbhohefeaaW.PrintWords Go.Proofs.YtmpbpgbhohefeaaW.PrintLast Go.Proofs.YtmpbpgbhohefeaaW.PrintMore
set_option linter.unusedVariables false
structure SlAt (w0 w : World) (A : Option Addr) (cap : Nat) (L : List V) : Prop where
  nil : L = [] → A = none
  row : L ≠ [] → ∃ g, A = some ⟨g, 0, none⟩ ∧ w0.heap.size ≤ g ∧ g < w.heap.size ∧ VRow w g L
  cap : L.length ≤ cap
set_option maxHeartbeats 4000000 in
theorem sortedFunc_calls (g : Nat) (lb : Array Value) (eg : ∀ args w, (callFunc g args).run Try.prog w = .ok (.enter g args) w) (S : List V → Prop) (hS : ∀ a b : List V, a.Perm b → S b → S a) (N : Nat) (hN : N ≤ 1000000) (w : World) (hseq : SeqGives Fence.wide 2 Try.prog g lb encV S N w) :
    Calls Try.prog 37 #[.func (.func g) #[] lb, .func (.func 39) #[] #[]] w fun e w' => ∃ (A : Option Addr) (cap : Nat) (L : List V), e = .returned (.slice A L.length cap) ∧ S L ∧ L.length ≤ N ∧ Asc L ∧ SlAt w w' A cap L ∧ Below w.heap.size w w' := by
  have hcol := callsIn_wide.1 (collect_in Fence.wide 4 trivial trivial rfl (by omega) g lb trivial eg _ N (by unfold maxLen; omega) (by omega) w hseq.bounded)
  go_enter Try.func37, Try.ntmps37
  go_upto_region 2 with (go_at_call 40; refine hcol.mono ?_; rintro e W ⟨v, ss, rfl, ⟨hSs, hlen⟩, hrow, hnil, hb⟩)
  rcases hrow.2 with ⟨rfl, hz⟩ | ⟨gb, cap, cur, rfl, hbase, hgb, r1, r2, r3, r4⟩
  · have hss : ss = [] := List.eq_nil_of_length_eq_zero hz
    subst hss
    go_wp2_with (go_at_call 41; refine (sort_none none 0 _ W).mono ?_; rintro e w' ⟨rfl, rfl⟩)
    go_ret
    exact ⟨none, 0, [], rfl, hSs, Nat.zero_le _, fun i j a b _ ha => by simp at ha, ⟨fun _ => rfl, fun h => absurd rfl h, Nat.le_refl _⟩, hb⟩
  · have hH : HoldsK cells 3 W gb 0 ss.toArray := holds_flat hgb r4
    have hgl : gb < W.heap.size := (Array.getElem?_eq_some_iff.1 hgb).1
    have hsrt := sort_calls gb cap ss W hH hgl (by omega)
    have hne : ss ≠ [] := fun e => by have := hnil.2 e; cases this
    go_wp2_with (go_at_call 41; refine hsrt.mono ?_; rintro e w' ⟨rfl, L, hp, hasc, hv, hg⟩)
    go_ret
    have hl := hp.length_eq
    exact ⟨some ⟨gb, 0, none⟩, cap, L, by rw [hl]; rfl, hS _ _ hp hSs, by omega, hasc, ⟨fun e => by rw [e] at hl; exact absurd (List.eq_nil_of_length_eq_zero hl.symm) hne, fun _ => ⟨gb, rfl, hbase, Nat.lt_of_lt_of_le hgl hg.size, hv⟩, by omega⟩, hb.grown hg hb.size (fun j hj => by cases hj; exact hbase)⟩
end Go.Proofs.Ytmpbpgbhohefeaa.Ag
end
section
namespace Go.Proofs.Ytmpbpgbhohefeaa.Ag
open Go.RowKit Go.Lib Go.Sort Go.Maps Go.Shelf Go.Proofs.YtmpbpgbhohefeaaW.PrintWords Go.Proofs.YtmpbpgbhohefeaaW.PrintLast Go.Proofs.YtmpbpgbhohefeaaW.PrintMore
set_option linter.unusedVariables false
set_option linter.unusedSimpArgs false
theorem SlAt.base {w0 w1 w : World} {A : Option Addr} {cap : Nat} {L : List V} (h : SlAt w1 w A cap L) (hs : w0.heap.size ≤ w1.heap.size) : SlAt w0 w A cap L :=
  ⟨h.nil, fun hn => by obtain ⟨g, e, h1, h2, h3⟩ := h.row hn; exact ⟨g, e, Nat.le_trans hs h1, h2, h3⟩, h.cap⟩
theorem SlAt.below {w0 w w' : World} {A : Option Addr} {cap : Nat} {L : List V} (h : SlAt w0 w A cap L) (hb : Below w.heap.size w w') : SlAt w0 w' A cap L :=
  ⟨h.nil, fun hn => by obtain ⟨g, e, h1, h2, h3⟩ := h.row hn; exact ⟨g, e, h1, Nat.lt_of_lt_of_le h2 hb.size, h3.below hb h2⟩, h.cap⟩
set_option maxHeartbeats 4000000 in
set_option maxRecDepth 100000 in
theorem sorted_calls (w : World) (a m n k b nb : Nat) (f : V → Int) (h3 : w.cell? ⟨a, 3, none⟩ = some (.slice (some ⟨m, 0, none⟩) n n)) (hk : k < n) (hn : n ≤ 1000000) (hm : w.cell? ⟨m, k, none⟩ = some (.map (some b))) (hB : Bag w b nb f) (hnb : nb ≤ 1000000) :
    Calls Try.prog 30 #[.pointer (some ⟨a, 0, none⟩), .int .i64 (k : Int)] w fun e w' => ∃ (A : Option Addr) (cap : Nat) (L : List V), e = .returned (.slice A L.length cap) ∧ L.Nodup ∧ (∀ v, v ∈ L ↔ f v ≠ 0) ∧ Asc L ∧ L.length ≤ nb ∧ SlAt w w' A cap L ∧ Below w.heap.size w w' := by
  obtain ⟨D, hown, hat, hhas⟩ := hB
  have hsize := hown.size_le
  have hseq := keys_gives Fence.wide 2 trivial rfl (by omega) w.heap.size b nb D (w.alloc (.cells #[.map (some b)] 54)) (by simp) (by simp) (hown.alloc _)
  have hK : ∀ mb W, Calls Try.prog 38 #[.map mb] W fun e w' => e = .returned (.func (.func 42) #[] #[.pointer (some ⟨W.heap.size, 0, none⟩)]) ∧ w' = W.alloc (.cells #[.map mb] 54) := fun mb W => callsIn_wide.1 (keys_in Fence.wide 5 trivial rfl mb W)
  have hS := sortedFunc_calls 42 #[.pointer (some ⟨w.heap.size, 0, none⟩)] (enters_of Try.func42 (by kernel_rfl) rfl) _ (fun x y hp h => ⟨hp.nodup_iff.2 h.1, fun v => hp.mem_iff.trans (h.2 v)⟩) _ (Nat.le_trans hsize hnb) _ hseq
  have HA := Aside0.mk hhas
  have HS := Aside0.mk hsize
  clear hhas hat hown hseq hsize
  have p0 : (0 ≤ (k : Int)) = True := eq_true (Int.natCast_nonneg _)
  have p1 : ((k : Int) < (n : Int)) = True := eq_true (by omega)
  go_enter Try.func30, Try.ntmps30
  go_wp2_with (first
    | (go_at_call 38; refine (hK _ _).mono ?_; rintro e w' ⟨rfl, rfl⟩)
    | (go_at_call 37; refine hS.mono ?_; rintro e w' ⟨A, cap, L, rfl, ⟨hd, hmem⟩, hlen, hasc, hsl, hb⟩))
  go_ret
  exact ⟨A, cap, L, rfl, hd, fun v => (hmem v).trans (HA.out v), hasc, Nat.le_trans hlen HS.out, hsl.base (by simp), ((Below.refl _ w).alloc (Nat.le_refl _) _).trans (hb.mono (by simp))⟩
set_option maxHeartbeats 4000000 in
set_option maxRecDepth 100000 in
theorem best1_pred (w : World) (a m n k b nb Ba Bi : Nat) (f : V → Int) (hn : n ≤ 1000000) (hk : k < n) (hBa : Ba < w.heap.size) (hBi : Bi < w.heap.size) (ha : a < w.heap.size) (hmm : m < w.heap.size)
    (ca : w.cell? ⟨Ba, 0, none⟩ = some (.pointer (some ⟨a, 0, none⟩))) (ci : w.cell? ⟨Bi, 0, none⟩ = some (.int .i64 (k : Int))) (h3 : w.cell? ⟨a, 3, none⟩ = some (.slice (some ⟨m, 0, none⟩) n n)) (hm : w.cell? ⟨m, k, none⟩ = some (.map (some b))) (hB : Bag w b nb f) :
    Go.Proofs.PredBelow Try.prog 31 #[.pointer (some ⟨Ba, 0, none⟩), .pointer (some ⟨Bi, 0, none⟩)] (fun x => .agg (cells x).toArray) (fun x => decide (f x ≤ 0)) w := fun W v hb => by
  have ca' := (hb.cell (p := ⟨Ba, 0, none⟩) hBa).trans ca
  have ci' := (hb.cell (p := ⟨Bi, 0, none⟩) hBi).trans ci
  have h3' := (hb.cell (p := ⟨a, 3, none⟩) ha).trans h3
  have hm' := (hb.cell (p := ⟨m, k, none⟩) hmm).trans hm
  have hB' := hB.below hb
  have n1 : Ba < W.heap.size := Nat.lt_of_lt_of_le hBa hb.size
  have n2 : Bi < W.heap.size := Nat.lt_of_lt_of_le hBi hb.size
  have n3 : a < W.heap.size := Nat.lt_of_lt_of_le ha hb.size
  have n4 : m < W.heap.size := Nat.lt_of_lt_of_le hmm hb.size
  have p0 : (0 ≤ (k : Int)) = True := eq_true (Int.natCast_nonneg _)
  have p1 : ((k : Int) < (n : Int)) = True := eq_true (by omega)
  have hl : ∀ q, (Instr.lookup 54 (.map (some b)) (encV v) false).run Try.prog ((W.alloc (.cells #[.int .i64 v.k, .int .i64 v.n, .string v.s] 43)).drewN q) = .ok (.int .i64 (f v)) ((W.alloc (.cells #[.int .i64 v.k, .int .i64 v.n, .string v.s] 43)).drewN q) := fun q => (Bag.same (w1 := (W.alloc (.cells #[.int .i64 v.k, .int .i64 v.n, .string v.s] 43)).drewN q) (hB'.below (below_alloc (Below.refl _ _) (.cells #[.int .i64 v.k, .int .i64 v.n, .string v.s] 43))) rfl).look v
  clear hB hB' hm ci ca h3
  show Calls Try.prog 31 #[encV v, .pointer (some ⟨Ba, 0, none⟩), .pointer (some ⟨Bi, 0, none⟩)] W _
  go_enter Try.func31, Try.ntmps31
  go_upto_region 1 with (fail)
  go_quiet (fail)
  try go_wp2
  go_ret
  exact ⟨rfl, pw_below_drewN (hb.alloc hb.size _) _⟩
set_option maxHeartbeats 4000000 in
set_option maxRecDepth 100000 in
theorem index_nil (A : Option Addr) (cap : Nat) (fv : Value) (w : World) : Calls Try.prog 36 #[.slice A 0 cap, fv] w fun e w' => e = .returned (.int .i64 (-1)) ∧ w' = w := by
  go_enter Try.func36, Try.ntmps36
  go_wp2
  go_loop [8] (fun v8 => v8 = .int .i64 0) (fun _ => 0)
  case atStart => rfl
  case round =>
    subst hrel
    go_wp2
    go_ret
    exact ⟨rfl, rfl⟩
theorem index_none (A : Option Addr) (cap : Nat) (L : List V) (w0 w : World) (g : Nat) (lb : Array Value) (eg : ∀ args w, (callFunc g args).run Try.prog w = .ok (.enter g args) w) (p : V → Bool) (hp : Go.Proofs.PredBelow Try.prog g lb (fun x => .agg (cells x).toArray) p w) (hL : SlAt w0 w A cap L) (hlen : L.length ≤ 1000000) (hno : ∀ v ∈ L, p v = false) :
    Calls Try.prog 36 #[.slice A L.length cap, .func (.func g) #[] lb] w fun e w' => e = .returned (.int .i64 (-1)) ∧ Below w.heap.size w w' := by
  by_cases e : L = []
  · subst e
    exact (index_nil A cap _ w).mono fun e w' ⟨h1, h2⟩ => ⟨h1, by rw [h2]; exact Below.refl _ _⟩
  · obtain ⟨b, rfl, _, hb, hr⟩ := hL.row e
    have h := Go.Proofs.AnyQ.slices_IndexFunc idxV 3 Try.isAgg43 Try.sizeOf43 cells (fun _ => rfl) p g lb eg b 0 L.length cap L w hp (Nat.le_refl _) (by omega) hb (fun j hj i v hv => by
      have h1 := hr j L[j] (List.getElem?_eq_getElem hj)
      rw [getElem!_pos L j hj] at hv
      rw [Nat.zero_add]
      match i, hv with
      | 0, hv => simp [cells] at hv; rw [← hv]; exact h1.1
      | 1, hv => simp [cells] at hv; rw [← hv]; exact h1.2.1
      | 2, hv => simp [cells] at hv; rw [← hv]; exact h1.2.2
      | i + 3, hv => simp [cells] at hv)
    change Calls Try.prog 36 _ _ _ at h
    rw [List.take_length] at h
    have hm := Lib.idxBy_miss (fun _ y => p y) L L.length default (fun j hj => by rw [getElem!_pos L j hj]; exact hno _ (List.getElem_mem hj))
    rw [List.take_length] at hm
    rw [hm] at h
    exact h
set_option maxHeartbeats 4000000 in
set_option maxRecDepth 100000 in
theorem delete_none (A : Option Addr) (cap : Nat) (L : List V) (w0 w : World) (g : Nat) (lb : Array Value) (eg : ∀ args w, (callFunc g args).run Try.prog w = .ok (.enter g args) w) (p : V → Bool) (hp : Go.Proofs.PredBelow Try.prog g lb (fun x => .agg (cells x).toArray) p w) (hL : SlAt w0 w A cap L) (hlen : L.length ≤ 1000000) (hno : ∀ v ∈ L, p v = false) :
    Calls Try.prog 29 #[.slice A L.length cap, .func (.func g) #[] lb] w fun e w' => e = .returned (.slice A L.length cap) ∧ Below w.heap.size w w' := by
  have h := index_none A cap L w0 w g lb eg p hp hL hlen hno
  go_enter Try.func29, Try.ntmps29
  go_wp2_with (go_at_call 36; refine h.mono ?_; rintro e w' ⟨rfl, hb⟩)
  go_ret
  exact ⟨rfl, hb⟩
end Go.Proofs.Ytmpbpgbhohefeaa.Ag
end
section
namespace Go.Proofs.Ytmpbpgbhohefeaa.Ag
open Go.RowKit Go.Lib Go.Sort Go.Maps Go.Shelf Go.Proofs.YtmpbpgbhohefeaaW.PrintWords Go.Proofs.YtmpbpgbhohefeaaW.PrintLast Go.Proofs.YtmpbpgbhohefeaaW.PrintMore Go.Proofs.Ytmpbpgbhohefeaa.My Go.Proofs.Ytmpbpgbhohefeaa.PAggregateTypes
set_option linter.unusedVariables false
set_option linter.unusedSimpArgs false
theorem wp_gen {P : Program} {c : Code} {Q : Exit → Act → World → Prop} {a : Act} {W : World} (X : World → Prop) (hX : X W) (h : ∀ W', X W' → Code.wp P c Q a W') : Code.wp P c Q a W := h W hX
theorem put3 {w : World} {g : Nat} {t : TypeId} {a b c : Value} (h : w.heap[g]? = some (.cells #[a, b, c] t (0, 0))) (x y z : Value) : (((w.setCell ⟨g, 0, none⟩ x).setCell ⟨g, 1, none⟩ y).setCell ⟨g, 2, none⟩ z).heap[g]? = some (.cells #[x, y, z] t (0, 0)) := blk_put (blk_put (blk_put h 0 x rfl) 1 y rfl) 2 z rfl
theorem put3_below {w w0 : World} {g : Nat} (h : Below w0.heap.size w0 w) (hg : w0.heap.size ≤ g) (x y z : Value) : Below w0.heap.size w0 (((w.setCell ⟨g, 0, none⟩ x).setCell ⟨g, 1, none⟩ y).setCell ⟨g, 2, none⟩ z) := ((h.setCell (p := ⟨g, 0, none⟩) hg x).setCell (p := ⟨g, 1, none⟩) hg y).setCell (p := ⟨g, 2, none⟩) hg z
def Best (kd : Int) (f : V → Int) (r : V) : Prop := ((∀ v, f v = 0) ∧ r = default) ∨ (f r ≠ 0 ∧ (kd = 2 → ∀ v, f v ≠ 0 → cf r v ≤ 0) ∧ (kd ≠ 2 → ∀ v, f v ≠ 0 → cf v r ≤ 0))
theorem cf_refl (v : V) : cf v v = 0 := cmp3_refl _ _ _
theorem asc_first {L : List V} (h : Asc L) {r : V} (hr : L[0]? = some r) : ∀ v ∈ L, cf r v ≤ 0 := fun v hv => by
  obtain ⟨j, hj, e⟩ := List.getElem_of_mem hv
  rcases Nat.eq_zero_or_pos j with h0 | h0
  · subst h0
    have : r = v := by rw [← e]; rw [List.getElem?_eq_getElem hj] at hr; exact (Option.some.inj hr).symm
    subst this; rw [cf_refl]; decide
  · exact h 0 j r v h0 hr (by rw [List.getElem?_eq_getElem hj, e])
theorem asc_last {L : List V} (h : Asc L) {r : V} (hr : L[L.length - 1]? = some r) : ∀ v ∈ L, cf v r ≤ 0 := fun v hv => by
  obtain ⟨j, hj, e⟩ := List.getElem_of_mem hv
  rcases Nat.lt_or_ge j (L.length - 1) with h0 | h0
  · exact h j _ v r h0 (by rw [List.getElem?_eq_getElem hj, e]) hr
  · have h1 : j = L.length - 1 := by omega
    subst h1
    have : r = v := by rw [← e]; rw [List.getElem?_eq_getElem hj] at hr; exact (Option.some.inj hr).symm
    subst this; rw [cf_refl]; decide
set_option maxHeartbeats 8000000 in
set_option maxRecDepth 100000 in
theorem best_calls (w : World) (a s m n k b nb : Nat) (G : Option Addr) (cG : Nat) (gs : List S33) (cnt : Int) (ms : Array Value) (f : V → Int)
    (ha : w.heap[a]? = some (.cells #[.slice G n cG, .int .i64 cnt, .slice (some ⟨s, 0, none⟩) n n, .slice (some ⟨m, 0, none⟩) n n] 52 (0, 0)))
    (hG : Kd.C k33 w G n gs) (hn : n ≤ 1000000) (hk : k < n) (hmb : w.heap[m]? = some (.cells ms 54 (0, 0))) (hm : ms[k]? = some (.map (some b))) (hB : Bag w b nb f) (hnb : nb ≤ 1000000) (hpos : ∀ v, 0 ≤ f v) (kd : Int) (hkd : (rd_T33 gs (k : Int)).f0 = kd) :
    Calls Try.prog 22 #[.pointer (some ⟨a, 0, none⟩), .int .i64 (k : Int)] w fun e w' => ∃ r : V, e = .returned (encV r) ∧ Best kd f r ∧ Below w.heap.size w w' := by
  have hu43 := Try.underlying43
  have HKD := Aside0.mk hkd
  clear hkd
  have hal := blk_lt ha
  have hml := blk_lt hmb
  obtain ⟨B, hB0⟩ : ∃ B, B = w.heap.size := ⟨_, rfl⟩
  obtain ⟨W, hW⟩ : ∃ W, ((w.alloc (.cells #[.pointer (some ⟨a, 0, none⟩)] 34)).alloc (.cells #[.int .i64 (k : Int)] 3)).alloc (.cells #[.int .i64 0, .int .i64 0, .string ⟨#[]⟩] 43) = W := ⟨_, rfl⟩
  have hbW : Below w.heap.size w W := by rw [← hW]; exact below_alloc (below_alloc (below_alloc (Below.refl _ _) _) _) _
  have b0 : W.heap[B]? = some (.cells #[.pointer (some ⟨a, 0, none⟩)] 34 (0, 0)) := by
    rw [← hW, hB0]
    exact (Below.heap_alloc _ _ _ (by simp; omega)).trans ((Below.heap_alloc _ _ _ (by simp)).trans (World.alloc_heap_new w _))
  have b1 : W.heap[B + 1]? = some (.cells #[.int .i64 (k : Int)] 3 (0, 0)) := by
    rw [← hW, hB0]
    refine (Below.heap_alloc _ _ _ (by simp)).trans ?_
    have := World.alloc_heap_new (w.alloc (.cells #[.pointer (some ⟨a, 0, none⟩)] 34)) (.cells #[.int .i64 (k : Int)] 3)
    rwa [World.size_alloc] at this
  have b2 : W.heap[B + 1 + 1]? = some (.cells #[.int .i64 0, .int .i64 0, .string ⟨#[]⟩] 43 (0, 0)) := by
    rw [← hW, hB0]
    have := World.alloc_heap_new ((w.alloc (.cells #[.pointer (some ⟨a, 0, none⟩)] 34)).alloc (.cells #[.int .i64 (k : Int)] 3)) (.cells #[.int .i64 0, .int .i64 0, .string ⟨#[]⟩] 43)
    rwa [World.size_alloc, World.size_alloc] at this
  obtain ⟨B1, hB1⟩ : ∃ B1, B1 = B + 1 := ⟨_, rfl⟩
  obtain ⟨B2, hB2⟩ : ∃ B2, B2 = B1 + 1 := ⟨_, rfl⟩
  rw [← hB1] at b1 b2
  rw [← hB2] at b2
  have haW := (hbW.block a hal).trans ha
  have hmW := (hbW.block m hml).trans hmb
  have hBW := hB.below hbW
  have hGW := Kd.C_below hG hbW
  have hsrt := sorted_calls W a m n k b nb f ((blk_cell haW 3).trans rfl) hk hn ((blk_cell hmW k).trans hm) hBW hnb
  have hpr := fun (W' : World) (hb : Below W.heap.size W W') => best1_pred W' a m n k b nb B B1 f hn hk (Nat.lt_of_lt_of_le (blk_lt b0) hb.size) (Nat.lt_of_lt_of_le (blk_lt b1) hb.size) (Nat.lt_of_lt_of_le (blk_lt haW) hb.size) (Nat.lt_of_lt_of_le (blk_lt hmW) hb.size)
    ((blk_cell ((hb.block B (blk_lt b0)).trans b0) 0).trans rfl) ((blk_cell ((hb.block B1 (blk_lt b1)).trans b1) 0).trans rfl) ((blk_cell ((hb.block a (blk_lt haW)).trans haW) 3).trans rfl) ((blk_cell ((hb.block m (blk_lt hmW)).trans hmW) k).trans hm) (hBW.below hb)
  have HPR := Aside0.mk hpr
  have HSRT := Aside0.mk hsrt
  have HPOS := Aside0.mk hpos
  have HBW := Aside0.mk hbW
  have HA := Aside0.mk haW
  have HG := Aside0.mk hGW
  have HB0 := Aside0.mk b0
  have HB1 := Aside0.mk b1
  have HB2 := Aside0.mk b2
  have HSZ := Aside0.mk (show w.heap.size ≤ B2 ∧ w.heap.size ≤ B ∧ w.heap.size ≤ B1 by omega)
  have HKN := Aside0.mk (show k < n ∧ n ≤ 1000000 from ⟨hk, hn⟩)
  have h1 := blk_cell b0 0
  have h2 := blk_cell b1 0
  clear hpr hsrt hpos haW hmW hBW hGW b0 b1 b2 ha hmb hm hB hG hal hml hbW hk hn
  have HW := Aside0.mk hW
  have E0 := Aside0.mk hB0
  have E1 := Aside0.mk hB1
  have E2 := Aside0.mk hB2
  clear hW hB0 hB1 hB2
  go_enter Try.func22, Try.ntmps22
  go_upto_region 1 with (fail)
  rw [HW.out, ← E0.out, ← E1.out, ← E2.out]
  have EG : ∀ args w, (callFunc 31 args).run Try.prog w = .ok (.enter 31 args) w := enters_of Try.func31 (by kernel_rfl) rfl
  have HEG := Aside0.mk EG
  clear EG
  go_upto_region 2 with (first
    | (go_at_call 30; refine HSRT.out.mono ?_; rintro e w1 ⟨A, cap, L, rfl, hnd, hmem, hasc, hlen, hsl, hb1⟩
       have HB1' := Aside0.mk hb1
       have HMEM := Aside0.mk hmem
       have HASC := Aside0.mk hasc
       have HLEN := Aside0.mk hlen
       have HSL := Aside0.mk hsl
       have HNO : Aside0 (∀ v ∈ L, decide (f v ≤ 0) = false) := ⟨fun v hv => decide_eq_false (by have h1 := (HMEM.out v).1 hv; have h2 := HPOS.out v; omega)⟩
       clear hnd hmem hasc hlen hsl hb1)
    | (go_at_call 29; refine (delete_none A cap L W w1 31 _ HEG.out _ (HPR.out w1 HB1'.out) HSL.out (Nat.le_trans HLEN.out hnb) HNO.out).mono ?_; rintro e w2 ⟨rfl, hb2⟩
       have HB2' := Aside0.mk (HB1'.out.trans (hb2.mono HB1'.out.size))
       have HSL2 := Aside0.mk (HSL.out.below hb2)
       clear hb2))
  have q2 := (HB2'.out.block B2 (blk_lt HB2.out)).trans HB2.out
  have q0 := (HB2'.out.block B (blk_lt HB0.out)).trans HB0.out
  have q1 := (HB2'.out.block B1 (blk_lt HB1.out)).trans HB1.out
  have qa := (HB2'.out.block a (blk_lt HA.out)).trans HA.out
  have QG := Aside0.mk (Kd.C_below HG.out HB2'.out)
  have HBB := Aside0.mk (HBW.out.trans (HB2'.out.mono HBW.out.size))
  have QB2 := Aside0.mk q2
  have hz2 := blk3 q2
  have hz0 := blk_cell q0 0
  have hz1 := blk_cell q1 0
  have hza := blk_cell qa 0
  clear h1 h2 q0 q1 q2 qa
  by_cases hL : L = []
  · subst hL
    have hall : ∀ v, f v = 0 := fun v => by
      have := (HMEM.out v)
      by_cases e : f v = 0
      · exact e
      · exact absurd (this.2 e) (by simp)
    have HALL := Aside0.mk hall
    clear hall
    go_wp2_with (go_at_call 21; refine (value_Int.calls 0 _ _ _ _ rfl).mono ?_; rintro e w3 ⟨rfl, hb3⟩; have HB3 := Aside0.mk hb3; clear hb3; have hz3 := blk3 ((HB3.out.block B2 (blk_lt QB2.out)).trans QB2.out))
    refine bodyPost_ret (results_cell_row rfl _ _ B2 43 #[.int .i64 0, .int .i64 0, .string ⟨#[]⟩] (0, 0) _ rfl (put3 ((HB3.out.block B2 (blk_lt QB2.out)).trans QB2.out) _ _ _) Try.underlying43 rfl (by kernel_rfl)) rfl ?_
    exact ⟨default, rfl, Or.inl ⟨HALL.out, rfl⟩, put3_below (HBB.out.trans (HB3.out.mono HBB.out.size)) HSZ.out.1 _ _ _⟩
  · obtain ⟨gL, rfl, _, hgl, hrow⟩ := HSL2.out.row hL
    have hl0 : 0 < L.length := by
      rcases L with _ | ⟨x, r⟩
      · exact absurd rfl hL
      · simp
    have zl : ((L.length : Int) == 0) = false := beq_eq_false_iff_ne.mpr (by omega)
    obtain ⟨ad, eG, x0, x1, x2⟩ := at_T33 QG.out (k : Int) (by omega) (by have := HKN.out; omega)
    subst eG
    have p0 : (0 ≤ (k : Int)) = True := eq_true (Int.natCast_nonneg _)
    have p1 : ((k : Int) < (n : Int)) = True := eq_true (by have := HKN.out; omega)
    have hmem' : ∀ v, f v ≠ 0 → v ∈ L := fun v hv => (HMEM.out v).2 hv
    have HM' := Aside0.mk hmem'
    have HROW := Aside0.mk hrow
    have HL0 := Aside0.mk hl0
    have hl1 : L.length ≤ 1000000 := Nat.le_trans HLEN.out hnb
    clear hmem' hrow hL
    rw [HKD.out, Int.toNat_natCast] at x0
    clear x1 x2
    by_cases hk2 : kd = 2
    · have zk : (kd == 2) = true := beq_iff_eq.mpr hk2
      have HK2 := Aside0.mk hk2
      obtain ⟨r, hr⟩ : ∃ r, L[0]? = some r := ⟨L[0], List.getElem?_eq_getElem hl0⟩
      obtain ⟨y0, y1, y2⟩ := HROW.out 0 r hr
      have HR := Aside0.mk hr
      have i0 : ((0 : Int) < (L.length : Int)) = True := eq_true (by omega)
      have i1 : (0 < L.length) = True := eq_true hl0
      rw [Nat.zero_mul] at y0 y1 y2
      clear hk2 hr hl0
      go_wp2
      go_quiet (fail)
      go_wp2
      refine bodyPost_ret (results_cell_row rfl _ _ B2 43 #[.int .i64 r.k, .int .i64 r.n, .string r.s] (0, 0) _ rfl (put3 (blk_drewN QB2.out _) _ _ _) Try.underlying43 rfl (by kernel_rfl)) rfl ?_
      refine ⟨r, rfl, Or.inr ⟨(HMEM.out r).1 (List.mem_of_getElem? HR.out), fun _ v hv => asc_first HASC.out HR.out v (HM'.out v hv), fun h => absurd HK2.out h⟩, put3_below (pw_below_drewN HBB.out _) HSZ.out.1 _ _ _⟩
    · have zk : (kd == 2) = false := beq_eq_false_iff_ne.mpr hk2
      have HK2 := Aside0.mk hk2
      obtain ⟨r, hr⟩ : ∃ r, L[L.length - 1]? = some r := ⟨L[L.length - 1], List.getElem?_eq_getElem (by omega)⟩
      obtain ⟨y0, y1, y2⟩ := HROW.out (L.length - 1) r hr
      have HR := Aside0.mk hr
      have i0 : (0 ≤ (L.length : Int) - 1) = True := eq_true (by omega)
      have i1 : ((L.length : Int) - 1 < (L.length : Int)) = True := eq_true (by omega)
      have e1 : ((L.length : Int) - 1).toNat = L.length - 1 := by omega
      clear hk2 hr
      go_wp2
      go_quiet (fail)
      go_wp2
      refine bodyPost_ret (results_cell_row rfl _ _ B2 43 #[.int .i64 r.k, .int .i64 r.n, .string r.s] (0, 0) _ rfl (put3 (blk_drewN QB2.out _) _ _ _) Try.underlying43 rfl (by kernel_rfl)) rfl ?_
      refine ⟨r, rfl, Or.inr ⟨(HMEM.out r).1 (List.mem_of_getElem? HR.out), fun h => absurd h HK2.out, fun _ v hv => asc_last HASC.out HR.out v (HM'.out v hv)⟩, put3_below (pw_below_drewN HBB.out _) HSZ.out.1 _ _ _⟩
def ordd (g : S33) : Prop := g.f0 = 2 ∨ g.f0 = 3
def Mut (a s : Nat) (ms : List (Option Nat)) (k : Nat) : Prop := k = a ∨ k = s ∨ ∃ i : Nat, ms[i]? = some (some k)
structure Acc (base : Nat) (w : World) (a : Nat) (G : Option Addr) (cG s m : Nat) (ms : List (Option Nat)) (gs : List S33) (cnt : Int) (sums : List Int) (bags : List (V → Int)) (nb : Nat → Nat) : Prop where
  ha : w.heap[a]? = some (.cells #[.slice G gs.length cG, .int .i64 cnt, .slice (some ⟨s, 0, none⟩) gs.length gs.length, .slice (some ⟨m, 0, none⟩) gs.length gs.length] 52 (0, 0))
  hG : Kd.C k33 w G gs.length gs
  hs : w.heap[s]? = some (.cells (sums.map (Value.int .i64)).toArray 3 (0, 0))
  hm : w.heap[m]? = some (.cells (ms.map Value.map).toArray 54 (0, 0))
  ls : sums.length = gs.length
  lm : ms.length = gs.length
  lb : bags.length = gs.length
  hb : ∀ (i b : Nat) (f : V → Int), ms[i]? = some (some b) → bags[i]? = some f → Bag w b (nb i) f
  ho : ∀ (i : Nat) (g : S33), gs[i]? = some g → (ordd g ↔ ∃ b : Nat, ms[i]? = some (some b))
  inj : ∀ (i j b : Nat), ms[i]? = some (some b) → ms[j]? = some (some b) → i = j
  ba : base ≤ a ∧ base ≤ s ∧ base ≤ m
  bb : ∀ (i b : Nat), ms[i]? = some (some b) → base ≤ b
  ap : ∀ ad : Addr, G = some ad → ¬ Mut a s ms ad.block
section
variable {base : Nat} {w w' : World} {a : Nat} {G : Option Addr} {cG s m : Nat} {ms : List (Option Nat)} {gs : List S33} {cnt : Int} {sums : List Int} {bags : List (V → Int)} {nb : Nat → Nat}
theorem bag_at (h : Acc base w a G cG s m ms gs cnt sums bags nb) {i b : Nat} (hi : ms[i]? = some (some b)) : ∃ f, bags[i]? = some f ∧ Bag w b (nb i) f := by
  have h1 : i < ms.length := by
    rcases Nat.lt_or_ge i ms.length with h1 | h1
    · exact h1
    · rw [List.getElem?_eq_none h1] at hi; cases hi
  have h2 : i < bags.length := by rw [h.lb, ← h.lm]; exact h1
  exact ⟨bags[i], List.getElem?_eq_getElem h2, h.hb i b _ hi (List.getElem?_eq_getElem h2)⟩
theorem Acc.below (h : Acc base w a G cG s m ms gs cnt sums bags nb) (hb : Below w.heap.size w w') : Acc base w' a G cG s m ms gs cnt sums bags nb :=
  { h with ha := (hb.block a (blk_lt h.ha)).trans h.ha, hG := Kd.C_below h.hG hb, hs := (hb.block s (blk_lt h.hs)).trans h.hs, hm := (hb.block m (blk_lt h.hm)).trans h.hm, hb := fun i b f h1 h2 => (h.hb i b f h1 h2).below hb }
theorem Acc.ne_as (h : Acc base w a G cG s m ms gs cnt sums bags nb) : a ≠ s := fun e => by have h1 := h.ha; have h2 := h.hs; rw [e, h2] at h1; simp at h1
theorem Acc.ne_am (h : Acc base w a G cG s m ms gs cnt sums bags nb) : a ≠ m := fun e => by have h1 := h.ha; have h2 := h.hm; rw [e, h2] at h1; simp at h1
theorem Acc.ne_sm (h : Acc base w a G cG s m ms gs cnt sums bags nb) : s ≠ m := fun e => by have h1 := h.hs; have h2 := h.hm; rw [e, h2] at h1; simp at h1
theorem Acc.ne_b (h : Acc base w a G cG s m ms gs cnt sums bags nb) {i b : Nat} (hi : ms[i]? = some (some b)) : b ≠ a ∧ b ≠ s ∧ b ≠ m := by
  obtain ⟨f, _, hB⟩ := bag_at h hi
  obtain ⟨es, clock, ho⟩ := hB.obj
  refine ⟨fun e => ?_, fun e => ?_, fun e => ?_⟩
  · have h1 := h.ha; rw [← e, ho] at h1; simp at h1
  · have h1 := h.hs; rw [← e, ho] at h1; simp at h1
  · have h1 := h.hm; rw [← e, ho] at h1; simp at h1
theorem Acc.mut_base (h : Acc base w a G cG s m ms gs cnt sums bags nb) : ∀ k, Mut a s ms k → base ≤ k := by
  rintro k (rfl | rfl | ⟨i, hi⟩)
  · exact h.ba.1
  · exact h.ba.2.1
  · exact h.bb i k hi
theorem C33_ch {M : Nat → Prop} {A : Option Addr} {n : Nat} {xs : List S33} (h : Kd.C k33 w A n xs) (hc : Ch M w w') (hA : ∀ ad, A = some ad → ¬ M ad.block) : Kd.C k33 w' A n xs :=
  ⟨h.1, h.2.1, fun hn => by
    obtain ⟨ad, e, hc0⟩ := h.2.2 hn
    refine ⟨ad, e, fun j p hj => ?_⟩
    obtain ⟨c, hs, hr, hcell⟩ := hc0 j p hj
    refine ⟨c, hs, by rw [k33_open hr]; exact k33_mk w' p, fun i u hu => ?_⟩
    have hq := hcell i u hu
    have hlt := World.block_lt_of_cell? w _ hq
    rw [hc.cell hlt (by rw [add_block]; exact hA ad e)]
    exact hq⟩
theorem C43_ch {M : Nat → Prop} {A : Option Addr} {n : Nat} {xs : List S43} (h : Kd.C k43 w A n xs) (hc : Ch M w w') (hA : 0 < n → ∀ ad, A = some ad → ¬ M ad.block) : Kd.C k43 w' A n xs :=
  ⟨h.1, h.2.1, fun hn => by
    obtain ⟨ad, e, hc0⟩ := h.2.2 hn
    refine ⟨ad, e, fun j p hj => ?_⟩
    obtain ⟨c, hs, hr, hcell⟩ := hc0 j p hj
    refine ⟨c, hs, by rw [k43_open hr]; exact k43_mk w' p, fun i u hu => ?_⟩
    have hq := hcell i u hu
    have hlt := World.block_lt_of_cell? w _ hq
    rw [hc.cell hlt (by rw [add_block]; exact hA hn ad e)]
    exact hq⟩
theorem Acc.setCnt (h : Acc base w a G cG s m ms gs cnt sums bags nb) (c : Int) : Acc base (w.setCell ⟨a, 1, none⟩ (.int .i64 c)) a G cG s m ms gs c sums bags nb :=
  { h with
    ha := blk_put h.ha 1 _ rfl
    hG := C33_ch h.hG (Ch.set (Ch.refl (Mut a s ms) w) (p := ⟨a, 1, none⟩) (Or.inl (Or.inl rfl)) _) h.ap
    hs := blk_far h.hs (Ne.symm h.ne_as) _
    hm := blk_far h.hm (Ne.symm h.ne_am) _
    hb := fun i b f h1 h2 => (h.hb i b f h1 h2).same (Below.heap_setCell _ _ _ _ (h.ne_b h1).1) }
theorem Acc.setSum (h : Acc base w a G cG s m ms gs cnt sums bags nb) (k : Nat) (x : Int) : Acc base (w.setCell ⟨s, k, none⟩ (.int .i64 x)) a G cG s m ms gs cnt (sums.set k x) bags nb :=
  { h with
    ha := blk_far h.ha h.ne_as _
    hG := C33_ch h.hG (Ch.set (Ch.refl (Mut a s ms) w) (p := ⟨s, k, none⟩) (Or.inl (Or.inr (Or.inl rfl))) _) h.ap
    hs := blk_put h.hs k _ (by rw [List.map_set]; simp)
    hm := blk_far h.hm (Ne.symm h.ne_sm) _
    ls := by rw [List.length_set]; exact h.ls
    hb := fun i b f h1 h2 => (h.hb i b f h1 h2).same (Below.heap_setCell _ _ _ _ (h.ne_b h1).2.1) }
theorem Acc.setBag (h : Acc base w a G cG s m ms gs cnt sums bags nb) {k b : Nat} (hk : ms[k]? = some (some b)) {f : V → Int} {n : Nat} (hf : Bag w' b n f) (hc : Ch (fun j => j = b) w w') : Acc base w' a G cG s m ms gs cnt sums (bags.set k f) (fun i => if i = k then n else nb i) :=
  { h with
    ha := (hc.block a (blk_lt h.ha) (Ne.symm (h.ne_b hk).1)).trans h.ha
    hG := C33_ch h.hG (hc.mono (M' := Mut a s ms) (fun j e => by subst e; exact Or.inr (Or.inr ⟨k, hk⟩))) h.ap
    hs := (hc.block s (blk_lt h.hs) (Ne.symm (h.ne_b hk).2.1)).trans h.hs
    hm := (hc.block m (blk_lt h.hm) (Ne.symm (h.ne_b hk).2.2)).trans h.hm
    lb := by rw [List.length_set]; exact h.lb
    hb := fun i b' f' h1 h2 => by
      by_cases e : i = k
      · subst e
        rw [hk] at h1
        obtain rfl : b = b' := by simpa using h1
        have hlt : i < bags.length := by
          rcases Nat.lt_or_ge i (bags.set i f).length with h3 | h3
          · simpa using h3
          · rw [List.getElem?_eq_none h3] at h2; cases h2
        rw [List.getElem?_set_self hlt] at h2
        cases h2
        rw [if_pos rfl]
        exact hf
      · rw [List.getElem?_set_ne (Ne.symm e)] at h2
        rw [if_neg e]
        have hB := h.hb i b' f' h1 h2
        exact hB.same (hc.block b' hB.lt (fun e' => e (by rw [e'] at h1; exact h.inj i k b h1 hk))) }
theorem Acc.bounds (h : Acc base w a G cG s m ms gs cnt sums bags nb) {nb' : Nat → Nat} (hn : ∀ i, nb i ≤ nb' i) : Acc base w a G cG s m ms gs cnt sums bags nb' :=
  { h with hb := fun i b f h1 h2 => (h.hb i b f h1 h2).mono (hn i) }
end
def mix {α : Type} (old new : List α) (k : Nat) : List α := new.take k ++ old.drop k
theorem mix_zero {α : Type} (old new : List α) : mix old new 0 = old := by simp [mix]
theorem mix_all {α : Type} {old new : List α} (h : new.length = old.length) : mix old new old.length = new := by simp [mix, ← h]
theorem mix_len {α : Type} {old new : List α} (h : new.length = old.length) (k : Nat) : (mix old new k).length = old.length := by simp [mix]; omega
theorem mix_at {α : Type} {old new : List α} (h : new.length = old.length) {k : Nat} (hk : k < old.length) : (mix old new k)[k]? = old[k]? := by
  unfold mix
  rw [List.getElem?_append_right (by simp; omega)]
  rw [List.length_take, Nat.min_eq_left (by omega), List.getElem?_drop]
  simp
theorem mix_set {α : Type} {old new : List α} (h : new.length = old.length) {k : Nat} {x : α} (hx : new[k]? = some x) : (mix old new k).set k x = mix old new (k + 1) := by
  have hk : k < new.length := by
    rcases Nat.lt_or_ge k new.length with h1 | h1
    · exact h1
    · rw [List.getElem?_eq_none h1] at hx; cases hx
  apply List.ext_getElem?
  intro i
  rw [List.getElem?_set]
  unfold mix
  by_cases e : k = i
  · subst e
    rw [if_pos rfl, if_pos (by simp; omega), List.getElem?_append_left (by simp; omega), List.getElem?_take_of_lt (by omega), hx]
  · rw [if_neg e]
    rcases Nat.lt_or_ge i k with h1 | h1
    · rw [List.getElem?_append_left (by simp; omega), List.getElem?_append_left (by simp; omega), List.getElem?_take_of_lt h1, List.getElem?_take_of_lt (by omega)]
    · rw [List.getElem?_append_right (by simp; omega), List.getElem?_append_right (by simp; omega), List.getElem?_drop, List.getElem?_drop]
      congr 1
      simp
      omega
theorem mix_same {α : Type} {old new : List α} (h : new.length = old.length) {k : Nat} (hk : k < old.length) (he : new[k]? = old[k]?) : mix old new (k + 1) = mix old new k := by
  have hk' : k < new.length := by omega
  rw [← mix_set h (List.getElem?_eq_getElem hk')]
  apply List.ext_getElem?
  intro i
  rw [List.getElem?_set]
  by_cases e : k = i
  · subst e
    rw [if_pos rfl, if_pos (by rw [mix_len h]; exact hk), mix_at h hk, ← he, List.getElem?_eq_getElem hk']
  · rw [if_neg e]
def toS (v : V) : S43 := ⟨v.k, v.n, v.s⟩
def atV (r : List V) (c : Int) : V := if c < 0 then default else if c ≥ (r.length : Int) then default else r.getD c.toNat default
theorem at_f (r : List V) (c : Int) : aggregate_at.f (r.map toS) c = some ((atV r c).k, (atV r c).n, (atV r c).s) := by
  unfold aggregate_at.f atV
  rw [List.length_map]
  by_cases h : c < 0
  · rw [if_pos h, if_pos h]; rfl
  · rw [if_neg h, if_neg h]
    by_cases h' : c ≥ (r.length : Int)
    · rw [if_pos h', if_pos h']; rfl
    · rw [if_neg h', if_neg h', if_pos (by omega), if_pos (by omega)]
      have hl : c.toNat < r.length := by omega
      have e1 : rd_T43 (r.map toS) c = toS (r.getD c.toNat default) := by
        unfold rd_T43
        rw [List.getD_eq_getElem?_getD, List.getD_eq_getElem?_getD, List.getElem?_map, List.getElem?_eq_getElem hl]
        rfl
      rw [e1]
      rfl
def addS (gs : List S33) (sums : List Int) (r : List V) (d : Int) : List Int := List.zipWith (fun g x => if g.f0 = 1 then wrap64 (x + wrap64 (d * (atV r g.f1).n)) else x) gs sums
noncomputable def addB (gs : List S33) (bags : List (V → Int)) (r : List V) (d : Int) : List (V → Int) := List.zipWith (fun g f => if g.f0 = 2 ∨ g.f0 = 3 then set f (atV r g.f1) (wrap64 (f (atV r g.f1) + d)) else f) gs bags
theorem addS_len {gs : List S33} {sums : List Int} (h : sums.length = gs.length) (r : List V) (d : Int) : (addS gs sums r d).length = sums.length := by simp [addS]; omega
theorem addB_len {gs : List S33} {bags : List (V → Int)} (h : bags.length = gs.length) (r : List V) (d : Int) : (addB gs bags r d).length = bags.length := by simp [addB]; omega
theorem addS_at {gs : List S33} {sums : List Int} {r : List V} {d : Int} {k : Nat} {g : S33} {x : Int} (hg : gs[k]? = some g) (hx : sums[k]? = some x) : (addS gs sums r d)[k]? = some (if g.f0 = 1 then wrap64 (x + wrap64 (d * (atV r g.f1).n)) else x) := by simp [addS, List.getElem?_zipWith, hg, hx]
theorem addB_at {gs : List S33} {bags : List (V → Int)} {r : List V} {d : Int} {k : Nat} {g : S33} {f : V → Int} (hg : gs[k]? = some g) (hx : bags[k]? = some f) : (addB gs bags r d)[k]? = some (if g.f0 = 2 ∨ g.f0 = 3 then set f (atV r g.f1) (wrap64 (f (atV r g.f1) + d)) else f) := by simp [addB, List.getElem?_zipWith, hg, hx]
theorem wf_n (v : V) : -9223372036854775808 ≤ v.n ∧ v.n ≤ 9223372036854775807 := by
  have h := v.hn
  simp [Lit.wf, IntKind.min, IntKind.max, IntKind.signed, IntKind.bits] at h
  omega
theorem bag_lt {w : World} {base a : Nat} {G : Option Addr} {cG s m : Nat} {ms : List (Option Nat)} {gs : List S33} {cnt : Int} {sums : List Int} {bags : List (V → Int)} {nb : Nat → Nat} (h : Acc base w a G cG s m ms gs cnt sums bags nb) : ∀ k, Mut a s ms k → k < w.heap.size := by
  rintro k (rfl | rfl | ⟨i, hi⟩)
  · exact blk_lt h.ha
  · exact blk_lt h.hs
  · obtain ⟨f, _, hB⟩ := bag_at h hi
    exact hB.lt
set_option maxHeartbeats 8000000 in
set_option maxRecDepth 100000 in
theorem add_calls (base : Nat) (w : World) (a : Nat) (G : Option Addr) (cG s m : Nat) (ms : List (Option Nat)) (gs : List S33) (cnt : Int) (sums : List Int) (bags : List (V → Int)) (nb : Nat → Nat) (A : Option Addr) (c : Nat) (r : List V) (d : Int)
    (h : Acc base w a G cG s m ms gs cnt sums bags nb) (hbase : base ≤ w.heap.size) (hgs : gs.length ≤ 1000) (hnb : ∀ i, nb i ≤ 1000000) (hR : Kd.C k43 w A r.length (r.map toS)) (hrc : r.length ≤ c) (hA : 0 < r.length → ∀ ad, A = some ad → ¬ Mut a s ms ad.block) :
    Calls Try.prog 10 #[.pointer (some ⟨a, 0, none⟩), .slice A r.length c, .int .i64 d] w fun e w' => e = .returned (.tuple #[]) ∧ Acc base w' a G cG s m ms gs (wrap64 (cnt + d)) (addS gs sums r d) (addB gs bags r d) (fun i => nb i + 1) ∧ Ch (Mut a s ms) w w' := by
  have hu43 := Try.underlying43
  have hu33 := Try.underlying33
  have ha0 := blk4 h.ha
  have H0 := Aside0.mk h
  have HR := Aside0.mk hR
  have HAA := Aside0.mk hA
  have HNB := Aside0.mk hnb
  have HRC := Aside0.mk hrc
  have HGS := Aside0.mk hgs
  have HW0 := Aside0.mk (bag_lt h)
  clear h hR hA hnb hrc hgs
  go_enter Try.func10, Try.ntmps10
  go_upto_region 1 with (fail)
  refine wp_gen (fun W => Acc base W a G cG s m ms gs (wrap64 (cnt + d)) sums bags nb ∧ Ch (Mut a s ms) w W) ⟨H0.out.setCnt _, Ch.set (Ch.refl _ _) (Or.inl (Or.inl rfl)) _⟩ (fun W hW => ?_)
  obtain ⟨h1, h2⟩ := hW
  have H1 := Aside0.mk h1
  have H2 := Aside0.mk h2
  have ha1 := blk4 h1.ha
  clear ha0 h1 h2
  obtain ⟨c1, hc1⟩ : ∃ c1, c1 = wrap64 (cnt + d) := ⟨_, rfl⟩
  have HC1 := Aside0.mk hc1
  rw [← hc1] at ha1 H1 ⊢
  clear hc1
  have hat19 : ∀ (col : Int) (W : World), Kd.C k43 W A r.length (r.map toS) → Calls Try.prog 19 #[.slice A r.length c, .int .i64 col] W fun e w' => e = .returned (encV (atV r col)) ∧ Below W.heap.size W w' := fun col W hW => by
    have h_ := aggregate_at.calls A c (r.map toS) col _ _ _ W (by rw [List.length_map]; exact hW) (by rw [List.length_map]; exact HRC.out) (at_f r col)
    rw [List.length_map] at h_
    exact h_
  have HAT := Aside0.mk hat19
  clear hat19
  obtain ⟨nS, hnS⟩ : ∃ x, x = addS gs sums r d := ⟨_, rfl⟩
  obtain ⟨nB, hnB⟩ : ∃ x, x = addB gs bags r d := ⟨_, rfl⟩
  have LS : Aside0 (nS.length = sums.length) := ⟨by rw [hnS]; exact addS_len H0.out.ls r d⟩
  have LB : Aside0 (nB.length = bags.length) := ⟨by rw [hnB]; exact addB_len H0.out.lb r d⟩
  have NS := Aside0.mk hnS
  have NB := Aside0.mk hnB
  clear hnS hnB
  go_wp2
  go_loopw [22] (fun v22 wr => ∃ k : Nat, k ≤ gs.length ∧ v22 = .int .i64 (k : Int) ∧ Aside0 (Acc base wr a G cG s m ms gs c1 (mix sums nS k) (mix bags nB k) (fun i => if i < k then nb i + 1 else nb i)) ∧ Aside0 (Ch (Mut a s ms) w wr)) (fun v22 _ => gs.length - (intOf v22).toNat)
  case atStart => exact ⟨0, Nat.zero_le _, rfl, ⟨by rw [mix_zero, mix_zero]; exact H1.out.bounds (fun i => by simp)⟩, H2⟩
  case round =>
    clear ha1
    obtain ⟨k, hk, rfl, HK, HCH⟩ := hrel
    have hgs := HGS.out
    by_cases hlt : k < gs.length
    · have p0 : (0 ≤ (k : Int)) = True := eq_true (Int.natCast_nonneg _)
      have p1 : ((k : Int) < (gs.length : Int)) = True := eq_true (by omega)
      obtain ⟨ad, eG, x0, x1, x2⟩ := at_T33 HK.out.hG (k : Int) (by omega) (by omega)
      have EG := Aside0.mk eG
      rw [Int.toNat_natCast] at x0 x1 x2
      obtain ⟨g, hg⟩ : ∃ g, rd_T33 gs (k : Int) = g := ⟨_, rfl⟩
      rw [hg] at x0 x1 x2
      have hgk : gs[k]? = some g := by
        rw [← hg]; unfold rd_T33
        rw [Int.toNat_natCast, List.getD_eq_getElem?_getD, List.getElem?_eq_getElem hlt]; rfl
      have GK := Aside0.mk hgk
      have HLT := Aside0.mk hlt
      subst eG
      clear hg hgk hlt
      obtain ⟨kd, col, nm⟩ := g
      dsimp only at x0 x1 x2
      go_upto_region 4 with (fail)
      refine wp_gen (fun W => W.heap[wr.heap.size]? = some (.cells #[.int .i64 kd, .int .i64 col, .string nm] 33 (0, 0)) ∧ Below wr.heap.size wr W) ⟨World.alloc_heap_new wr _, below_alloc (Below.refl _ _) _⟩ (fun W hW => ?_)
      obtain ⟨e7, hbW⟩ := hW
      obtain ⟨g7, hg7⟩ : ∃ g7, wr.heap.size = g7 := ⟨_, rfl⟩
      have HS7 := Aside0.mk (show wr.heap.size ≤ g7 by omega)
      rw [hg7] at e7 ⊢
      clear hg7
      have E7 := Aside0.mk e7
      have HKW := Aside0.mk (HK.out.below hbW)
      have HCW := Aside0.mk (HCH.out.trans (Ch.of_below hbW))
      have hz7 := blk3 e7
      clear e7 hbW x0 x1 x2 HK HCH
      go_upto_region 5 with (go_at_call 19; refine (HAT.out col W (C43_ch HR.out HCW.out HAA.out)).mono ?_; rintro e w2 ⟨rfl, hb2⟩; have HB2 := Aside0.mk hb2; clear hb2)
      obtain ⟨v, hv⟩ : ∃ v, v = atV r col := ⟨_, rfl⟩
      rw [← hv]
      have HV := Aside0.mk hv
      clear hv
      refine wp_gen (fun W2 => W2.heap[w2.heap.size]? = some (.cells #[.int .i64 v.k, .int .i64 v.n, .string v.s] 43 (0, 0)) ∧ Below w2.heap.size w2 W2) ⟨World.alloc_heap_new w2 _, below_alloc (Below.refl _ _) _⟩ (fun W2 hW2 => ?_)
      obtain ⟨e8, hbW2⟩ := hW2
      have HBX := Aside0.mk (HB2.out.trans (hbW2.mono HB2.out.size))
      obtain ⟨g8, hg8⟩ : ∃ g8, w2.heap.size = g8 := ⟨_, rfl⟩
      rw [hg8] at e8 ⊢
      clear hg8 hbW2 hz7
      have E8 := Aside0.mk e8
      have F7 := Aside0.mk ((HBX.out.block g7 (blk_lt E7.out)).trans E7.out)
      have HK2 := Aside0.mk (HKW.out.below HBX.out)
      have HC2 := Aside0.mk (HCW.out.trans (Ch.of_below HBX.out))
      have hz7 := blk3 F7.out
      have hz8 := blk3 e8
      clear e8
      have hin := wf_n v
      clear hin
      have HIN := Aside0.mk (wf_n v)
      obtain ⟨sk, hsk⟩ : ∃ x, sums[k]? = some x := ⟨sums[k]'(by rw [H0.out.ls]; exact HLT.out), List.getElem?_eq_getElem (by rw [H0.out.ls]; exact HLT.out)⟩
      obtain ⟨fk, hfk⟩ : ∃ x, bags[k]? = some x := ⟨bags[k]'(by rw [H0.out.lb]; exact HLT.out), List.getElem?_eq_getElem (by rw [H0.out.lb]; exact HLT.out)⟩
      have SK := Aside0.mk hsk
      have FK := Aside0.mk hfk
      have NSK : Aside0 (nS[k]? = some (if kd = 1 then wrap64 (sk + wrap64 (d * v.n)) else sk)) := ⟨by rw [NS.out, HV.out]; exact addS_at GK.out SK.out⟩
      have NBK : Aside0 (nB[k]? = some (if kd = 2 ∨ kd = 3 then set fk v (wrap64 (fk v + d)) else fk)) := ⟨by rw [NB.out, HV.out]; exact addB_at GK.out FK.out⟩
      clear hsk hfk
      have p0 : (0 ≤ (k : Int)) = True := eq_true (Int.natCast_nonneg _)
      have p1 : ((k : Int) < (gs.length : Int)) = True := eq_true (by have := HLT.out; omega)
      have hgs2 := HGS.out
      have hkk : k < gs.length := HLT.out
      have ha2 := blk4 HK2.out.ha
      by_cases hkd : kd = 1
      · have zk : (kd == 1) = true := beq_iff_eq.mpr hkd
        have KD := Aside0.mk hkd
        clear hkd
        have y2 := ha2.2.2.1
        have ys : W2.cell? ⟨s, k, none⟩ = some (.int .i64 sk) := (blk_cell HK2.out.hs k).trans (by
          have h_ := mix_at (old := sums) (new := nS) LS.out (k := k) (by rw [H0.out.ls]; exact HLT.out)
          rw [SK.out] at h_
          simp [h_])
        have yf := blk_frozen HK2.out.hs k
        have y8 := hz8.2.1
        go_upto_region 6 with (fail)

        refine start_ (n := 14) (S := fun w' => w'.cell? ⟨a, 2, none⟩ = some (.slice (some ⟨s, 0, none⟩) gs.length gs.length) ∧ w'.cell? ⟨s, k, none⟩ = some (.int .i64 sk) ∧ w'.cell? ⟨g8, 1, none⟩ = some (.int .i64 v.n)) (ds := [13]) #[false, false, false, false, false, false, false, false, false, false, false, false, false, false] (by kernel_rfl) rfl rfl ⟨y2, ys, y8⟩ (fun hHeld => ?_)
        refine pure_ (i := 0) (N := some 35) (v := ?_) (a' := ?_) #[true, false, false, false, false, false, false, false, false, false, false, false, false, false] rfl rfl (by kernel_rfl) (fun _ _ _ h => h) (Or.inl ⟨by rfl, ?_⟩) ?_ ?_
        rotate_left
        · intro w'
          go_simp
          with_reducible rfl
        rotate_left
        · simp only [Act.put, List.setIfInBounds_toArray, List.set_cons_zero, List.set_cons_succ, i64_w, i32_w]
          rfl
        refine pure_ (i := 1) (N := some 36) (v := ?_) (a' := ?_) #[true, true, false, false, false, false, false, false, false, false, false, false, false, false] rfl rfl (by kernel_rfl) (fun _ _ _ h => h) (Or.inl ⟨by rfl, ?_⟩) ?_ ?_
        rotate_left
        · intro w'
          go_simp
          with_reducible rfl
        rotate_left
        · simp only [Act.put, List.setIfInBounds_toArray, List.set_cons_zero, List.set_cons_succ, i64_w, i32_w]
          rfl
        refine pure_ (i := 2) (N := some 37) (v := ?_) (a' := ?_) #[true, true, true, false, false, false, false, false, false, false, false, false, false, false] rfl rfl (by kernel_rfl) (fun _ _ _ h => h) (Or.inl ⟨by rfl, ?_⟩) ?_ ?_
        rotate_left
        · intro w'
          go_simp
          with_reducible rfl
        rotate_left
        · simp only [Act.put, List.setIfInBounds_toArray, List.set_cons_zero, List.set_cons_succ, i64_w, i32_w]
          rfl
        refine take_ (i := 3) (N := some 38) (v := ?_) (a' := ?_) #[true, true, true, true, false, false, false, false, false, false, false, false, false, false] rfl rfl (by kernel_rfl) (fun _ _ _ h => h) (Or.inl ⟨by rfl, ?_⟩) hHeld ?_ ?_
        rotate_left
        · rintro w' ⟨s0, s1, s2⟩
          go_simp
          with_reducible rfl
        rotate_left
        · simp only [Act.put, List.setIfInBounds_toArray, List.set_cons_zero, List.set_cons_succ, i64_w, i32_w]
          rfl
        refine pure_ (i := 4) (N := some 39) (v := ?_) (a' := ?_) #[true, true, true, true, true, false, false, false, false, false, false, false, false, false] rfl rfl (by kernel_rfl) (fun _ _ _ h => h) (Or.inl ⟨by rfl, ?_⟩) ?_ ?_
        rotate_left
        · intro w'
          go_simp
          with_reducible rfl
        rotate_left
        · simp only [Act.put, List.setIfInBounds_toArray, List.set_cons_zero, List.set_cons_succ, i64_w, i32_w]
          rfl
        refine pure_ (i := 5) (N := some 40) (v := ?_) (a' := ?_) #[true, true, true, true, true, true, false, false, false, false, false, false, false, false] rfl rfl (by kernel_rfl) (fun _ _ _ h => h) (Or.inl ⟨by rfl, ?_⟩) ?_ ?_
        rotate_left
        · intro w'
          go_simp
          with_reducible rfl
        rotate_left
        · simp only [Act.put, List.setIfInBounds_toArray, List.set_cons_zero, List.set_cons_succ, i64_w, i32_w]
          rfl
        refine take_ (i := 6) (N := some 41) (v := ?_) (a' := ?_) #[true, true, true, true, true, true, true, false, false, false, false, false, false, false] rfl rfl (by kernel_rfl) (fun _ _ _ h => h) (Or.inl ⟨by rfl, ?_⟩) hHeld ?_ ?_
        rotate_left
        · rintro w' ⟨s0, s1, s2⟩
          go_simp
          with_reducible rfl
        rotate_left
        · simp only [Act.put, List.setIfInBounds_toArray, List.set_cons_zero, List.set_cons_succ, i64_w, i32_w]
          rfl
        refine pure_ (i := 7) (N := some 42) (v := ?_) (a' := ?_) #[true, true, true, true, true, true, true, true, false, false, false, false, false, false] rfl rfl (by kernel_rfl) (fun _ _ _ h => h) (Or.inl ⟨by rfl, ?_⟩) ?_ ?_
        rotate_left
        · intro w'
          go_simp
          with_reducible rfl
        rotate_left
        · simp only [Act.put, List.setIfInBounds_toArray, List.set_cons_zero, List.set_cons_succ, i64_w, i32_w]
          rfl
        refine pure_ (i := 8) (N := some 43) (v := ?_) (a' := ?_) #[true, true, true, true, true, true, true, true, true, false, false, false, false, false] rfl rfl (by kernel_rfl) (fun _ _ _ h => h) (Or.inl ⟨by rfl, ?_⟩) ?_ ?_
        rotate_left
        · intro w'
          go_simp
          with_reducible rfl
        rotate_left
        · simp only [Act.put, List.setIfInBounds_toArray, List.set_cons_zero, List.set_cons_succ, i64_w, i32_w]
          rfl
        refine take_ (i := 9) (N := some 44) (v := ?_) (a' := ?_) #[true, true, true, true, true, true, true, true, true, true, false, false, false, false] rfl rfl (by kernel_rfl) (fun _ _ _ h => h) (Or.inl ⟨by rfl, ?_⟩) hHeld ?_ ?_
        rotate_left
        · rintro w' ⟨s0, s1, s2⟩
          go_simp
          with_reducible rfl
        rotate_left
        · simp only [Act.put, List.setIfInBounds_toArray, List.set_cons_zero, List.set_cons_succ, i64_w, i32_w]
          rfl
        refine pure_ (i := 10) (N := some 45) (v := ?_) (a' := ?_) #[true, true, true, true, true, true, true, true, true, true, true, false, false, false] rfl rfl (by kernel_rfl) (fun _ _ _ h => h) (Or.inl ⟨by rfl, ?_⟩) ?_ ?_
        rotate_left
        · intro w'
          go_simp
          with_reducible rfl
        rotate_left
        · simp only [Act.put, List.setIfInBounds_toArray, List.set_cons_zero, List.set_cons_succ, i64_w, i32_w]
          rfl
        refine pure_ (i := 11) (N := some 46) (v := ?_) (a' := ?_) #[true, true, true, true, true, true, true, true, true, true, true, true, false, false] rfl rfl (by kernel_rfl) (fun _ _ _ h => h) (Or.inl ⟨by rfl, ?_⟩) ?_ ?_
        rotate_left
        · intro w'
          go_simp
          with_reducible rfl
        rotate_left
        · simp only [Act.put, List.setIfInBounds_toArray, List.set_cons_zero, List.set_cons_succ, i64_w, i32_w]
          rfl
        refine pure_ (i := 12) (N := some 47) (v := ?_) (a' := ?_) #[true, true, true, true, true, true, true, true, true, true, true, true, true, false] rfl rfl (by kernel_rfl) (fun _ _ _ h => h) (Or.inl ⟨by rfl, ?_⟩) ?_ ?_
        rotate_left
        · intro w'
          go_simp
          with_reducible rfl
        rotate_left
        · simp only [Act.put, List.setIfInBounds_toArray, List.set_cons_zero, List.set_cons_succ, i64_w, i32_w]
          rfl
        refine last_ (i := 13) (N := none) #[true, true, true, true, true, true, true, true, true, true, true, true, true, true] rfl rfl (by kernel_rfl) (by decide) (fun K hK => ?_)
        have x_ : wrap64 (sk + wrap64 (d * v.n)) = wrap64 (sk + wrap64 (d * v.n)) := rfl
        refine skip_ (w1 := W2.drew.setCell ⟨s, k, none⟩ (.int .i64 (wrap64 (sk + wrap64 (d * v.n))))) rfl rfl ?_ ?_
        · first | (go_simp; done) | (go_simp; rfl)
        refine hK.out _ _ ?_
        clear hK K
        refine done_ (by kernel_rfl) ?_
        have ea := mix_set LS.out (k := k) (by rw [NSK.out, if_pos KD.out])
        have eb := (mix_same LB.out (k := k) (by rw [H0.out.lb]; exact HLT.out) (by rw [NBK.out, FK.out, if_neg (by have := KD.out; omega)]))
        have hq := ((HK2.out.below (below_drew (Below.refl _ _))).setSum k (wrap64 (sk + wrap64 (d * v.n)))).bounds (nb' := fun i => if i < k + 1 then nb i + 1 else nb i) (fun i => by split <;> split <;> omega)
        rw [ea, ← eb] at hq
        have HQ := Aside0.mk hq
        have HCQ := Aside0.mk (Ch.set (HC2.out.drew) (p := ⟨s, k, none⟩) (Or.inl (Or.inr (Or.inl rfl))) (.int .i64 (wrap64 (sk + wrap64 (d * v.n)))))
        clear hq ea eb y2 ys yf y8 hHeld
        go_wp2
        go_roundw
        case rel => exact ⟨k + 1, by omega, by go_num, HQ, HCQ⟩
        case measure => simp [intOf]; omega
      · have zk : (kd == 1) = false := beq_eq_false_iff_ne.mpr hkd
        have KD := Aside0.mk hkd
        have esum := mix_same LS.out (k := k) (by rw [H0.out.ls]; exact HLT.out) (by rw [NSK.out, SK.out, if_neg KD.out])
        have ES := Aside0.mk esum
        clear hkd esum
        by_cases ho : kd = 2 ∨ kd = 3
        · have hf17 : aggregate_ordered.f kd col nm = some true := by
            unfold aggregate_ordered.f
            by_cases e : kd = 2
            · rw [if_pos e]
            · rw [if_neg e]
              have e3 : kd = 3 := by omega
              rw [e3]; rfl
          have HF17 := Aside0.mk hf17
          have HO := Aside0.mk ho
          obtain ⟨b, hb⟩ : ∃ b, ms[k]? = some (some b) := (HK2.out.ho k _ GK.out).1 ho
          have MB := Aside0.mk hb
          clear hf17 ho hb
          go_upto_region 8 with (go_at_call 17; refine (aggregate_ordered.calls kd col nm true _ HF17.out).mono ?_; rintro e w3 ⟨rfl, hb3⟩; have HB3 := Aside0.mk hb3; clear hb3)
          have HK3 := Aside0.mk (HK2.out.below HB3.out)
          have HC3 := Aside0.mk (HC2.out.trans (Ch.of_below HB3.out))
          have y3 := (blk4 HK3.out.ha).2.2.2.1
          have ym : w3.cell? ⟨m, k, none⟩ = some (.map (some b)) := (blk_cell HK3.out.hm k).trans (by simp [MB.out])
          have h8 := blk3 ((HB3.out.block g8 (blk_lt E8.out)).trans E8.out)
          obtain ⟨f0, hf0, hB⟩ := bag_at (HK3.out.below (below_drew (Below.refl _ _))) MB.out
          have ef : f0 = fk := by
            have h_ := mix_at (old := bags) (new := nB) LB.out (k := k) (by rw [H0.out.lb]; exact HLT.out)
            rw [hf0, FK.out] at h_
            exact Option.some.inj h_
          subst ef
          rw [if_neg (Nat.lt_irrefl k)] at hB
          have hput := put_calls b (nb k) f0 v d w3.drew hB (by have := HNB.out k; unfold maxLen; omega)
          have HPUT := Aside0.mk hput
          clear hz7 hz8 ha2 hf0 hB hput
          refine start_ (n := 10) (S := fun w' => w'.cell? ⟨a, 3, none⟩ = some (.slice (some ⟨m, 0, none⟩) gs.length gs.length) ∧ w'.cell? ⟨m, k, none⟩ = some (.map (some b)) ∧ w'.cell? ⟨g8, 0, none⟩ = some (.int .i64 v.k) ∧ w'.cell? ⟨g8, 1, none⟩ = some (.int .i64 v.n) ∧ w'.cell? ⟨g8, 2, none⟩ = some (.string v.s)) (ds := [9]) #[false, false, false, false, false, false, false, false, false, false] (by kernel_rfl) rfl rfl ⟨y3, ym, h8.1, h8.2.1, h8.2.2.1⟩ (fun hHeld => ?_)
          refine pure_ (i := 0) (N := some 51) (v := ?_) (a' := ?_) #[true, false, false, false, false, false, false, false, false, false] rfl rfl (by kernel_rfl) (fun _ _ _ h => h) (Or.inl ⟨by rfl, ?_⟩) ?_ ?_
          rotate_left
          · intro w'
            go_simp
            with_reducible rfl
          rotate_left
          · simp only [Act.put, List.setIfInBounds_toArray, List.set_cons_zero, List.set_cons_succ, i64_w, i32_w]
            rfl
          refine pure_ (i := 1) (N := some 52) (v := ?_) (a' := ?_) #[true, true, false, false, false, false, false, false, false, false] rfl rfl (by kernel_rfl) (fun _ _ _ h => h) (Or.inl ⟨by rfl, ?_⟩) ?_ ?_
          rotate_left
          · intro w'
            go_simp
            with_reducible rfl
          rotate_left
          · simp only [Act.put, List.setIfInBounds_toArray, List.set_cons_zero, List.set_cons_succ, i64_w, i32_w]
            rfl
          refine pure_ (i := 2) (N := some 53) (v := ?_) (a' := ?_) #[true, true, true, false, false, false, false, false, false, false] rfl rfl (by kernel_rfl) (fun _ _ _ h => h) (Or.inl ⟨by rfl, ?_⟩) ?_ ?_
          rotate_left
          · intro w'
            go_simp
            with_reducible rfl
          rotate_left
          · simp only [Act.put, List.setIfInBounds_toArray, List.set_cons_zero, List.set_cons_succ, i64_w, i32_w]
            rfl
          refine take_ (i := 3) (N := some 54) (v := ?_) (a' := ?_) #[true, true, true, true, false, false, false, false, false, false] rfl rfl (by kernel_rfl) (fun _ _ _ h => h) (Or.inl ⟨by rfl, ?_⟩) hHeld ?_ ?_
          rotate_left
          · rintro w' ⟨s0, s1, s2, s3, s4⟩
            go_simp
            with_reducible rfl
          rotate_left
          · simp only [Act.put, List.setIfInBounds_toArray, List.set_cons_zero, List.set_cons_succ, i64_w, i32_w]
            rfl
          refine pure_ (i := 4) (N := some 55) (v := ?_) (a' := ?_) #[true, true, true, true, true, false, false, false, false, false] rfl rfl (by kernel_rfl) (fun _ _ _ h => h) (Or.inl ⟨by rfl, ?_⟩) ?_ ?_
          rotate_left
          · intro w'
            go_simp
            with_reducible rfl
          rotate_left
          · simp only [Act.put, List.setIfInBounds_toArray, List.set_cons_zero, List.set_cons_succ, i64_w, i32_w]
            rfl
          refine pure_ (i := 5) (N := some 56) (v := ?_) (a' := ?_) #[true, true, true, true, true, true, false, false, false, false] rfl rfl (by kernel_rfl) (fun _ _ _ h => h) (Or.inl ⟨by rfl, ?_⟩) ?_ ?_
          rotate_left
          · intro w'
            go_simp
            with_reducible rfl
          rotate_left
          · simp only [Act.put, List.setIfInBounds_toArray, List.set_cons_zero, List.set_cons_succ, i64_w, i32_w]
            rfl
          refine take_ (i := 6) (N := some 57) (v := ?_) (a' := ?_) #[true, true, true, true, true, true, true, false, false, false] rfl rfl (by kernel_rfl) (fun _ _ _ h => h) (Or.inl ⟨by rfl, ?_⟩) hHeld ?_ ?_
          rotate_left
          · rintro w' ⟨s0, s1, s2, s3, s4⟩
            go_simp
            with_reducible rfl
          rotate_left
          · simp only [Act.put, List.setIfInBounds_toArray, List.set_cons_zero, List.set_cons_succ, i64_w, i32_w]
            rfl
          refine take_ (i := 7) (N := some 58) (v := ?_) (a' := ?_) #[true, true, true, true, true, true, true, true, false, false] rfl rfl (by kernel_rfl) (fun _ _ _ h => h) (Or.inl ⟨by rfl, ?_⟩) hHeld ?_ ?_
          rotate_left
          · rintro w' ⟨s0, s1, s2, s3, s4⟩
            go_simp
            with_reducible rfl
          rotate_left
          · simp only [Act.put, List.setIfInBounds_toArray, List.set_cons_zero, List.set_cons_succ, i64_w, i32_w]
            rfl
          refine pure_ (i := 8) (N := some 59) (v := ?_) (a' := ?_) #[true, true, true, true, true, true, true, true, true, false] rfl rfl (by kernel_rfl) (fun _ _ _ h => h) (Or.inl ⟨by rfl, ?_⟩) ?_ ?_
          rotate_left
          · intro w'
            go_simp
            with_reducible rfl
          rotate_left
          · simp only [Act.put, List.setIfInBounds_toArray, List.set_cons_zero, List.set_cons_succ, i64_w, i32_w]
            rfl
          refine last_ (i := 9) (N := some 60) #[true, true, true, true, true, true, true, true, true, true] rfl rfl (by kernel_rfl) (by decide) (fun K hK => ?_)
          refine goes_ Try.func20 (by kernel_rfl) rfl #[.map (some b), encV v, .int .i64 d] (by rfl) rfl rfl (by (try simp only [List.map_toArray, List.map_cons, List.map_nil]); first | done | rfl) ?_
          refine HPUT.out.mono ?_
          rintro e w4 ⟨rfl, hB4, hC4⟩
          refine ⟨_, rfl, ?_⟩
          have HB4 := Aside0.mk hB4
          have HC4 := Aside0.mk hC4
          clear hB4 hC4
          refine hK.out _ _ ?_
          clear hK K
          refine norm_ (a' := ?_) ?_ ?_
          rotate_left
          · show Act.put _ (some 60) _ = _
            simp only [Act.put, List.setIfInBounds_toArray, List.set_cons_zero, List.set_cons_succ, i64_w, i32_w]
            rfl
          refine done_ (by kernel_rfl) ?_
          have eb := mix_set LB.out (k := k) (by rw [NBK.out, if_pos HO.out])
          have hq := ((HK3.out.below (below_drew (Below.refl _ _))).setBag MB.out HB4.out HC4.out).bounds (nb' := fun i => if i < k + 1 then nb i + 1 else nb i) (fun i => by split <;> split <;> (try split) <;> (try omega) <;> (subst_vars; omega))
          rw [eb, ← ES.out] at hq
          have HQ := Aside0.mk hq
          have HCQ := Aside0.mk (HC3.out.drew.trans (HC4.out.mono (M' := Mut a s ms) (fun j e => by subst e; exact Or.inr (Or.inr ⟨k, MB.out⟩))))
          clear hq eb y3 ym h8 hHeld
          go_wp2
          go_roundw
          case rel => exact ⟨k + 1, by omega, by go_num, HQ, HCQ⟩
          case measure => simp [intOf]; omega
        · have hf17 : aggregate_ordered.f kd col nm = some false := by
            unfold aggregate_ordered.f
            rw [if_neg (by omega)]
            have e3 : (kd == 3) = false := beq_eq_false_iff_ne.mpr (by omega)
            rw [e3]
          have HF17 := Aside0.mk hf17
          have HO := Aside0.mk ho
          clear hf17 ho
          go_wp2_with (go_at_call 17; refine (aggregate_ordered.calls kd col nm false _ HF17.out).mono ?_; rintro e w3 ⟨rfl, hb3⟩; have HB3 := Aside0.mk hb3; clear hb3)
          have eb := (mix_same LB.out (k := k) (by rw [H0.out.lb]; exact HLT.out) (by rw [NBK.out, FK.out, if_neg (by exact HO.out)]))
          have hq := (HK2.out.below HB3.out).bounds (nb' := fun i => if i < k + 1 then nb i + 1 else nb i) (fun i => by split <;> split <;> omega)
          rw [← eb, ← ES.out] at hq
          have HQ := Aside0.mk hq
          have HCQ := Aside0.mk (HC2.out.trans (Ch.of_below HB3.out))
          clear hq eb
          go_roundw
          case rel => exact ⟨k + 1, by omega, by go_num, HQ, HCQ⟩
          case measure => simp [intOf]; omega
    · have hkn : k = gs.length := by omega
      have p1 : ((k : Int) < (gs.length : Int)) = False := eq_false (by omega)
      have hq := HK.out
      have e1 : mix sums nS k = nS := by rw [hkn, ← H0.out.ls]; exact mix_all LS.out
      have e2 : mix bags nB k = nB := by rw [hkn, ← H0.out.lb]; exact mix_all LB.out
      rw [e1, e2, NS.out, NB.out, HC1.out] at hq
      have HQ := Aside0.mk (hq.bounds (nb' := fun i => nb i + 1) (fun i => by split <;> omega))
      clear hq e1 e2 hkn hlt
      go_wp2
      go_end0
      exact ⟨rfl, HQ.out, HCH.out⟩
noncomputable def intV (x : Int) : V := open Classical in if h : (Lit.int .i64 x).wf = true then ⟨0, x, ⟨#[]⟩, by decide, h, by decide⟩ else default
theorem intV_enc {x : Int} (h : (Lit.int .i64 x).wf = true) : encV (intV x) = .agg #[.int .i64 0, .int .i64 x, .string ⟨#[]⟩] := by unfold intV; rw [dif_pos h]
theorem own_below {w w' : World} {base : Nat} {e : TypeId} {size n : Nat} {v : Value} {xs : List Value} (h : w.ownsRow base e size v n xs) (hb : Below w.heap.size w w') : w'.ownsRow base e size v n xs := own_move h (fun k hk => hb.block k (own_lt h k hk))
def ResOk (g : S33) (cnt sm : Int) (f : V → Int) (r : V) : Prop := (g.f0 = 0 → r = intV cnt) ∧ (g.f0 = 1 → r = intV sm) ∧ (g.f0 = 2 ∨ g.f0 = 3 → Best g.f0 f r)
def ResAll (gs : List S33) (cnt : Int) (sums : List Int) (bags : List (V → Int)) (rs : List V) : Prop := ∀ (j : Nat) (g : S33) (sm : Int) (f : V → Int) (r : V), gs[j]? = some g → sums[j]? = some sm → bags[j]? = some f → rs[j]? = some r → ResOk g cnt sm f r
theorem ResAll.snoc {gs : List S33} {cnt : Int} {sums : List Int} {bags : List (V → Int)} {rs : List V} (h : ResAll gs cnt sums bags rs) {r : V} (hr : ∀ (g : S33) (sm : Int) (f : V → Int), gs[rs.length]? = some g → sums[rs.length]? = some sm → bags[rs.length]? = some f → ResOk g cnt sm f r) : ResAll gs cnt sums bags (rs ++ [r]) := by
  intro j g sm f q h1 h2 h3 h4
  rcases Nat.lt_trichotomy j rs.length with hj | hj | hj
  · rw [List.getElem?_append_left hj] at h4
    exact h j g sm f q h1 h2 h3 h4
  · subst hj
    rw [List.getElem?_append_right (Nat.le_refl _), Nat.sub_self] at h4
    obtain rfl : r = q := by simpa using h4
    exact hr g sm f h1 h2 h3
  · rw [List.getElem?_eq_none (by simp; omega)] at h4
    cases h4
set_option maxHeartbeats 8000000 in
set_option maxRecDepth 100000 in
theorem result_calls (base : Nat) (w : World) (a : Nat) (G : Option Addr) (cG s m : Nat) (ms : List (Option Nat)) (gs : List S33) (cnt : Int) (sums : List Int) (bags : List (V → Int)) (nb : Nat → Nat)
    (h : Acc base w a G cG s m ms gs cnt sums bags nb) (hgs : gs.length ≤ 1000) (hnb : ∀ i, nb i ≤ 1000000) (hk4 : ∀ g ∈ gs, 0 ≤ g.f0 ∧ g.f0 ≤ 3) (hcw : (Lit.int .i64 cnt).wf = true) (hsw : ∀ x ∈ sums, (Lit.int .i64 x).wf = true) (hpos : ∀ f ∈ bags, ∀ v, 0 ≤ f v) :
    Calls Try.prog 11 #[.pointer (some ⟨a, 0, none⟩)] w fun e w' => ∃ (v : Value) (rs : List V), e = .returned v ∧ rs.length = gs.length ∧ ResAll gs cnt sums bags rs ∧ w'.ownsRow w.heap.size 43 3 v rs.length (flat rs) ∧ Below w.heap.size w w' := by
  have hu43 := Try.underlying43
  have hu33 := Try.underlying33
  obtain ⟨i0, hi, hz0, hz1, hz2⟩ := info_parts info43
  have ha0 := blk4 h.ha
  have I0 := Aside0.mk hi
  have I1 := Aside0.mk hz0
  have I2 := Aside0.mk hz1
  have I3 := Aside0.mk hz2
  have H0 := Aside0.mk h
  have HNB := Aside0.mk hnb
  have HK4 := Aside0.mk hk4
  have HGS := Aside0.mk hgs
  have HCW := Aside0.mk hcw
  have HSW := Aside0.mk hsw
  have HPOS := Aside0.mk hpos
  clear h hnb hk4 hgs hcw hsw hpos hi hz0 hz1 hz2
  go_enter Try.func11, Try.ntmps11
  go_wp2
  go_loopw [11, 3] (fun v11 v3 wr => ∃ (k : Nat) (rs : List V) (sv : Value), k ≤ gs.length ∧ v11 = .int .i64 (k : Int) ∧ sv = v3 ∧ Aside0 (rs.length = k) ∧ Aside0 (ResAll gs cnt sums bags rs) ∧ Aside0 (wr.ownsRow w.heap.size 43 3 sv rs.length (flat rs)) ∧ Aside0 (Below w.heap.size w wr)) (fun v11 v3 _ => gs.length - (intOf v11).toNat)
  case atStart => exact ⟨0, [], _, Nat.zero_le _, rfl, rfl, ⟨rfl⟩, ⟨fun j g sm f r h1 h2 h3 h4 => by simp at h4⟩, ⟨World.ownsRow_nil _ _ _ _⟩, ⟨Below.refl _ _⟩⟩
  case round =>
    clear ha0
    obtain ⟨k, rs, sv, hk, rfl, rfl, HL, HRES, HOWN, HB⟩ := hrel
    have hgs := HGS.out
    by_cases hlt : k < gs.length
    · have HA := Aside0.mk (H0.out.below HB.out)
      have p0 : (0 ≤ (k : Int)) = True := eq_true (Int.natCast_nonneg _)
      have p1 : ((k : Int) < (gs.length : Int)) = True := eq_true (by omega)
      obtain ⟨ad, eG, x0, x1, x2⟩ := at_T33 HA.out.hG (k : Int) (by omega) (by omega)
      rw [Int.toNat_natCast] at x0 x1 x2
      obtain ⟨g, hg⟩ : ∃ g, rd_T33 gs (k : Int) = g := ⟨_, rfl⟩
      rw [hg] at x0 x1 x2
      have hgk : gs[k]? = some g := by
        rw [← hg]; unfold rd_T33
        rw [Int.toNat_natCast, List.getD_eq_getElem?_getD, List.getElem?_eq_getElem hlt]; rfl
      have hkd := HK4.out g (List.mem_of_getElem? hgk)
      have GK := Aside0.mk hgk
      have GR := Aside0.mk hg
      have HLT := Aside0.mk hlt
      have EG := Aside0.mk eG
      obtain ⟨sk, hsk⟩ : ∃ x, sums[k]? = some x := ⟨sums[k]'(by rw [H0.out.ls]; exact hlt), List.getElem?_eq_getElem (by rw [H0.out.ls]; exact hlt)⟩
      obtain ⟨fk, hfk⟩ : ∃ x, bags[k]? = some x := ⟨bags[k]'(by rw [H0.out.lb]; exact hlt), List.getElem?_eq_getElem (by rw [H0.out.lb]; exact hlt)⟩
      have SK := Aside0.mk hsk
      have FK := Aside0.mk hfk
      subst eG
      clear hg hgk hlt hsk hfk
      obtain ⟨kd, col, nm⟩ := g
      dsimp only at x0 x1 x2 hkd
      go_upto_region 5 with (fail)
      refine wp_gen (fun W => W.heap[wr.heap.size]? = some (.cells #[.int .i64 kd, .int .i64 col, .string nm] 33 (0, 0)) ∧ Below wr.heap.size wr W) ⟨World.alloc_heap_new wr _, below_alloc (Below.refl _ _) _⟩ (fun W hW => ?_)
      obtain ⟨e7, hbW⟩ := hW
      have HBW := Aside0.mk hbW
      have HBT := Aside0.mk (HB.out.trans (hbW.mono HB.out.size))
      obtain ⟨g7, hg7⟩ : ∃ g7, wr.heap.size = g7 := ⟨_, rfl⟩
      rw [hg7] at e7 ⊢
      have hz7 := blk3 e7
      clear hg7 hbW x0 x1 x2 e7
      have HAW := Aside0.mk (HA.out.below HBW.out)
      have HOW := Aside0.mk (own_below HOWN.out HBW.out)
      have ha1 := blk4 HAW.out.ha
      have hs0 := Aside0.mk HBT.out.size
      by_cases k0 : kd = 0
      · have z0 : (kd == 0) = true := beq_iff_eq.mpr k0
        have K0 := Aside0.mk k0
        have X := Aside0.mk (intV_enc HCW.out)
        clear k0
        go_wp2_with (first
          | (go_at_call 21; refine (value_Int.calls cnt _ _ _ _ rfl).mono ?_; rintro e w2 ⟨rfl, hb2⟩; have HB2 := Aside0.mk hb2; clear hb2; rw [← X.out])
          | ((with_reducible refine gate_builtin (b := .append) (xs := #[.tmp 26, .tmp 32]) rfl ?_); go_loud (at_builtin; refine wpList_append_own _ rfl (.tmp 26) (.tmp 32) 37 rfl w.heap.size 43 i0 (.agg #[.int .i64 0, .int .i64 0, .string ⟨#[]⟩]) 3 32 Try.underlying37 I0.out I1.out I2.out I3.out rfl (by decide) sv rs.length (flat rs) (by first | rfl | (go_simp; done) | (go_simp; rfl)) (own_below (own_below HOW.out HB2.out) (below_alloc (Below.refl _ _) _)) ⟨w2.heap.size, 0, none⟩ 1 1 (cells (intV cnt)) (by first | rfl | (go_simp; done) | (go_simp; rfl)) rfl ?aC (cells_one _) ?aM ?aB ?aS ?_; (case aC => exact cells_new3 w2 (intV cnt)); (case aM => have := HL.out; simp only [maxLen]; omega); (case aB => have := HL.out; omega); (case aS => have := HBT.out.size; have := HB2.out.size; simp; omega); intro v' w4 hown hg hat; have HO4 := Aside0.mk hown; have HG4 := Aside0.mk hg; clear hown hg hat)))
        refine ⟨⟨k + 1, rs ++ [intV cnt], v', by have := HLT.out; omega, by go_num, rfl, ⟨by have := HL.out; simp; omega⟩, ⟨HRES.out.snoc (fun g' sm' f' h1 h2 h3 => by rw [HL.out] at h1 h2 h3; rw [GK.out] at h1; rw [SK.out] at h2; rw [FK.out] at h3; cases h1; cases h2; cases h3; exact ⟨fun _ => rfl, fun h => by have h1_ : kd = 1 := h; have := K0.out; omega, fun h => by have h1_ : kd = 2 ∨ kd = 3 := h; have := K0.out; omega⟩)⟩, ⟨by rw [flat_snoc, List.length_append]; exact HO4.out⟩, ⟨((HBT.out.trans (HB2.out.mono HBT.out.size)).alloc (by have := HBT.out.size; have := HB2.out.size; omega) _).grown HG4.out (by have := HBT.out.size; have := HB2.out.size; simp; omega) (fun j hj => own_base HOW.out j hj)⟩⟩, by have := HLT.out; simp [intOf]; omega⟩
      · have z0 : (kd == 0) = false := beq_eq_false_iff_ne.mpr k0
        have K0 := Aside0.mk k0
        clear k0
        by_cases k1 : kd = 1
        · have z1 : (kd == 1) = true := beq_iff_eq.mpr k1
          have K1 := Aside0.mk k1
          have X := Aside0.mk (intV_enc (HSW.out sk (List.mem_of_getElem? SK.out)))
          have ys : W.cell? ⟨s, k, none⟩ = some (.int .i64 sk) := (blk_cell HAW.out.hs k).trans (by simp [SK.out])
          have p1 : ((k : Int) < (gs.length : Int)) = True := eq_true (by have := HLT.out; omega)
          clear k1
          go_wp2_with (first
            | (go_at_call 21; refine (value_Int.calls sk _ _ _ _ rfl).mono ?_; rintro e w2 ⟨rfl, hb2⟩; have HB2 := Aside0.mk hb2; clear hb2; rw [← X.out])
            | ((with_reducible refine gate_builtin (b := .append) (xs := #[.tmp 36, .tmp 45]) rfl ?_); go_loud (at_builtin; refine wpList_append_own _ rfl (.tmp 36) (.tmp 45) 37 rfl w.heap.size 43 i0 (.agg #[.int .i64 0, .int .i64 0, .string ⟨#[]⟩]) 3 32 Try.underlying37 I0.out I1.out I2.out I3.out rfl (by decide) sv rs.length (flat rs) (by first | rfl | (go_simp; done) | (go_simp; rfl)) (own_below (own_below HOW.out HB2.out) (below_alloc (Below.refl _ _) _)) ⟨w2.heap.size, 0, none⟩ 1 1 (cells (intV sk)) (by first | rfl | (go_simp; done) | (go_simp; rfl)) rfl ?aC (cells_one _) ?aM ?aB ?aS ?_; (case aC => exact cells_new3 w2 (intV sk)); (case aM => have := HL.out; simp only [maxLen]; omega); (case aB => have := HL.out; omega); (case aS => have := HBT.out.size; have := HB2.out.size; simp; omega); intro v' w4 hown hg hat; have HO4 := Aside0.mk hown; have HG4 := Aside0.mk hg; clear hown hg hat)))
          refine ⟨⟨k + 1, rs ++ [intV sk], v', by have := HLT.out; omega, by go_num, rfl, ⟨by have := HL.out; simp; omega⟩, ⟨HRES.out.snoc (fun g' sm' f' h1 h2 h3 => by rw [HL.out] at h1 h2 h3; rw [GK.out] at h1; rw [SK.out] at h2; rw [FK.out] at h3; cases h1; cases h2; cases h3; exact ⟨fun h => absurd h K0.out, fun _ => rfl, fun h => by have h1_ : kd = 2 ∨ kd = 3 := h; have := K1.out; omega⟩)⟩, ⟨by rw [flat_snoc, List.length_append]; exact HO4.out⟩, ⟨((HBT.out.trans (HB2.out.mono HBT.out.size)).alloc (by have := HBT.out.size; have := HB2.out.size; omega) _).grown HG4.out (by have := HBT.out.size; have := HB2.out.size; simp; omega) (fun j hj => own_base HOW.out j hj)⟩⟩, by have := HLT.out; simp [intOf]; omega⟩
        · have z1 : (kd == 1) = false := beq_eq_false_iff_ne.mpr k1
          have K1 := Aside0.mk k1
          have hk23 : kd = 2 ∨ kd = 3 := by have := K0.out; have := K1.out; omega
          obtain ⟨b, hb⟩ : ∃ b, ms[k]? = some (some b) := (HAW.out.ho k _ GK.out).1 hk23
          obtain ⟨f0, hf0, hBg⟩ := bag_at HAW.out hb
          rw [FK.out] at hf0
          obtain rfl : fk = f0 := Option.some.inj hf0
          have hbest := best_calls W a s m gs.length k b (nb k) (some ad) cG gs cnt _ fk HAW.out.ha HAW.out.hG (by omega) HLT.out HAW.out.hm (by simp [hb]) hBg (HNB.out k) (HPOS.out fk (List.mem_of_getElem? FK.out)) kd (by rw [GR.out])
          have HBEST := Aside0.mk hbest
          have HK23 := Aside0.mk hk23
          clear k1 hk23 hb hf0 hBg hbest
          go_wp2_with (first
            | (go_at_call 22; refine HBEST.out.mono ?_; rintro e w2 ⟨r, rfl, hres, hb2⟩; have HB2 := Aside0.mk hb2; have HRS := Aside0.mk hres; clear hb2 hres)
            | ((with_reducible refine gate_builtin (b := .append) (xs := #[.tmp 18, .tmp 22]) rfl ?_); go_loud (at_builtin; refine wpList_append_own _ rfl (.tmp 18) (.tmp 22) 37 rfl w.heap.size 43 i0 (.agg #[.int .i64 0, .int .i64 0, .string ⟨#[]⟩]) 3 32 Try.underlying37 I0.out I1.out I2.out I3.out rfl (by decide) sv rs.length (flat rs) (by first | rfl | (go_simp; done) | (go_simp; rfl)) (own_below (own_below HOW.out HB2.out) (below_alloc (Below.refl _ _) _)) ⟨w2.heap.size, 0, none⟩ 1 1 (cells r) (by first | rfl | (go_simp; done) | (go_simp; rfl)) rfl ?aC (cells_one _) ?aM ?aB ?aS ?_; (case aC => exact cells_new3 w2 r); (case aM => have := HL.out; simp only [maxLen]; omega); (case aB => have := HL.out; omega); (case aS => have := HBT.out.size; have := HB2.out.size; simp; omega); intro v' w4 hown hg hat; have HO4 := Aside0.mk hown; have HG4 := Aside0.mk hg; clear hown hg hat)))
          refine ⟨⟨k + 1, rs ++ [r], v', by have := HLT.out; omega, by go_num, rfl, ⟨by have := HL.out; simp; omega⟩, ⟨HRES.out.snoc (fun g' sm' f' h1 h2 h3 => by rw [HL.out] at h1 h2 h3; rw [GK.out] at h1; rw [SK.out] at h2; rw [FK.out] at h3; cases h1; cases h2; cases h3; exact ⟨fun h => absurd h K0.out, fun h => absurd h K1.out, fun _ => HRS.out⟩)⟩, ⟨by rw [flat_snoc, List.length_append]; exact HO4.out⟩, ⟨((HBT.out.trans (HB2.out.mono HBT.out.size)).alloc (by have := HBT.out.size; have := HB2.out.size; omega) _).grown HG4.out (by have := HBT.out.size; have := HB2.out.size; simp; omega) (fun j hj => own_base HOW.out j hj)⟩⟩, by have := HLT.out; simp [intOf]; omega⟩
    · have hkn : k = gs.length := by omega
      have p1 : ((k : Int) < (gs.length : Int)) = False := eq_false (by omega)
      have HKN := Aside0.mk hkn
      clear hkn hlt hgs hk
      go_wp2
      go_ret
      exact ⟨_, rs, rfl, by rw [HL.out]; exact HKN.out, HRES.out, HOWN.out, HB.out⟩
theorem info33 : (Try.prog.info? 33).map (fun i => (i.zero, i.size, i.bytes)) = some (some (.agg #[.int .i64 0, .int .i64 0, .string ⟨#[]⟩]), 3, 32) := by kernel_rfl
theorem info3 : (Try.prog.info? 3).map (fun i => (i.zero, i.size, i.bytes)) = some (some (.int .i64 0), 1, 8) := by kernel_rfl
theorem info54 : (Try.prog.info? 54).map (fun i => (i.zero, i.size, i.bytes)) = some (some (.map none), 1, 8) := by kernel_rfl
theorem own_C33 {w W : World} {g n : Nat} {cur : Array Value} {news : List Value} {l : List S33} (hb : W.heap[g]? = some (.cells cur 33 (0, 0))) (hB : Below w.heap.size w W) (hcur : cur.toList.take (n * 3) = news) (hl : l.length = n) (hrep : Reps (k33.K w) 3 l news) (hn : n ≤ 9223372036854775807) : Kd.C k33 W (some ⟨g, 0, none⟩) n l := by
  refine ⟨hl, hn, fun _ => ⟨_, rfl, fun j p hj => ⟨(news.drop (j * 3)).take 3, ?_, k33.K_below hB (hrep.2 j p hj), fun i u hi => ?_⟩⟩⟩
  · have h1 := hrep.1
    have h2 : j < l.length := by
      rcases Nat.lt_or_ge j l.length with h | h
      · exact h
      · rw [List.getElem?_eq_none h] at hj; cases hj
    show ((news.drop (j * 3)).take 3).length = 3
    rw [List.length_take, List.length_drop, h1]
    omega
  · rw [add_plain]
    have hi3 : i < 3 := by
      rcases Nat.lt_or_ge i 3 with h | h
      · exact h
      · rw [List.getElem?_eq_none (by simp; omega)] at hi; cases hi
    rw [List.getElem?_take_of_lt hi3, List.getElem?_drop, ← hcur, List.getElem?_take] at hi
    show W.cell? ⟨g, j * 3 + i, none⟩ = some u
    rw [blk_cell hb]
    split at hi
    · rw [← Array.getElem?_toList]; exact hi
    · cases hi
set_option maxHeartbeats 4000000 in
set_option maxRecDepth 100000 in
theorem clone_calls (w : World) (A : Option Addr) (n c : Nat) (gs : List S33) (hC : Kd.C k33 w A n gs) (hn : n ≤ 1000) :
    Calls Try.prog 16 #[.slice A n c] w fun e w' => ∃ (G : Option Addr) (cG : Nat), e = .returned (.slice G n cG) ∧ Kd.C k33 w' G n gs ∧ n ≤ cG ∧ (∀ ad, G = some ad → w.heap.size ≤ ad.block ∧ ∃ cur, w'.heap[ad.block]? = some (.cells cur 33 (0, 0))) ∧ Below w.heap.size w w' := by
  cases A with
  | none =>
    have hn0 : n = 0 := by
      rcases Nat.eq_zero_or_pos n with h | h
      · exact h
      · obtain ⟨ad, e, _⟩ := hC.2.2 h; cases e
    subst hn0
    have h := Go.Proofs.AnyE.slices_Clone_nil cloneG 0 c w
    change Calls Try.prog 16 _ _ _ at h
    refine h.mono ?_
    rintro e w' ⟨rfl, rfl⟩
    exact ⟨none, 0, rfl, hC, Nat.le_refl _, (fun ad e => by cases e), Below.refl _ _⟩
  | some ad =>
    obtain ⟨news, hrep, hnew⟩ := ReadsRow.inner_ hC
    obtain ⟨i0, hi, hz0, hz1, hz2⟩ := info_parts info33
    have hone := Kd.reps_one hrep (by decide) (fun p c hp => k33.K_one hp)
    have hlen : news.length = n * 3 := by rw [hrep.1, hC.1]; rfl
    have q22 : ∀ (w : World) (a : Option Addr) (n c n' c' : Nat), (binOp .eql 22 (.slice a n c) (.slice none n' c')).run Try.prog w = .ok (.bool a.isNone) w := fun w a n c n' c' => Lib.run_eql_slice_nil w _ _ a n c n' c' Try.underlying22
    have HN := Aside0.mk hnew
    have HR := Aside0.mk hrep
    have HC := Aside0.mk hC
    clear hnew hrep hC
    go_enter Try.func16, Try.ntmps16
    go_wp2_with (at_builtin; refine wpList_append_own _ rfl _ _ 22 rfl w.heap.size 33 i0 (.agg #[.int .i64 0, .int .i64 0, .string ⟨#[]⟩]) 3 32 Try.underlying22 hi hz0 hz1 hz2 rfl (by decide) _ _ _ rfl (World.ownsRow_made w #[] 0 (Nat.le_refl _) (Nat.zero_le _) (by simp)) ad n c news rfl ?qc1 ?qc2 ?qc3 ?qc4 ?qc5 ?qc6 ?_)
    case qc1 => exact hlen
    case qc2 => intro j u hj; exact Lib.cell?_alloc_some _ (HN.out j u hj)
    case qc3 => exact hone
    case qc4 => unfold maxLen; omega
    case qc5 => omega
    case qc6 => simp
    intro v' w1 hown hgrow hnil
    have HO := Aside0.mk hown
    have HG := Aside0.mk hgrow
    clear hown hgrow hnil
    go_wp2
    go_ret
    have hB : Below w.heap.size w w1 := ((Below.refl _ w).alloc (Nat.le_refl _) _).grown HG.out (by simp) (by intro k hk; simp [Value.ownBlock] at hk; omega)
    have hown := HO.out
    rcases hown.2 with ⟨rfl, h0⟩ | ⟨g, cap, cur, rfl, hbg, hg, h1, h2, h3, h4⟩
    · subst h0
      exact ⟨none, 0, rfl, ⟨HC.out.1, by omega, fun h => absurd h (Nat.lt_irrefl 0)⟩, Nat.le_refl _, (fun ad e => by cases e), hB⟩
    · exact ⟨some ⟨g, 0, none⟩, cap, rfl, own_C33 hg hB h4 HC.out.1 HR.out (by omega), h1, fun ad e => by cases e; exact ⟨hbg, cur, hg⟩, hB⟩
theorem made1 (z : Value) (hz : z.cells = #[z]) (n : Nat) : madeCells z.cells (n * 1) = (List.replicate n z).toArray := by
  rw [hz, Nat.mul_one]
  apply Array.ext
  · simp [madeCells]
  · intro i h1 h2
    simp [madeCells, Nat.mod_one]
theorem make_sums (n : Nat) (hn : n ≤ 1000) (w : World) : (Instr.makeSlice 49 (.int .i64 (n : Int)) (.int .i64 (n : Int))).run Try.prog w = .ok (.slice (some ⟨w.heap.size, 0, none⟩) n n) (w.alloc (.cells ((List.replicate n (0 : Int)).map (Value.int .i64)).toArray 3)) := by
  obtain ⟨i0, hi, hz0, hz1, hz2⟩ := info_parts info3
  have h := run_make (P := Try.prog) w 49 3 i0 (.int .i64 0) Try.underlying49 hi hz0 .i64 .i64 (n : Int) (n : Int) (by omega) (by omega) (by rw [hz2]; omega) (by omega)
  rw [hz1, Int.toNat_natCast, made1 _ rfl] at h
  rw [h, List.map_replicate]
theorem make_bags (n : Nat) (hn : n ≤ 1000) (w : World) : (Instr.makeSlice 50 (.int .i64 (n : Int)) (.int .i64 (n : Int))).run Try.prog w = .ok (.slice (some ⟨w.heap.size, 0, none⟩) n n) (w.alloc (.cells ((List.replicate n (none : Option Nat)).map Value.map).toArray 54)) := by
  obtain ⟨i0, hi, hz0, hz1, hz2⟩ := info_parts info54
  have h := run_make (P := Try.prog) w 50 54 i0 (.map none) Try.underlying50 hi hz0 .i64 .i64 (n : Int) (n : Int) (by omega) (by omega) (by rw [hz2]; omega) (by omega)
  rw [hz1, Int.toNat_natCast, made1 _ rfl] at h
  rw [h, List.map_replicate]
structure NewAt (w W : World) (a : Nat) (G : Option Addr) (cG s m : Nat) (ms : List (Option Nat)) (gs : List S33) (k : Nat) : Prop where
  ha : W.heap[a]? = some (.cells #[.slice G gs.length cG, .int .i64 0, .slice (some ⟨s, 0, none⟩) gs.length gs.length, .slice (some ⟨m, 0, none⟩) gs.length gs.length] 52 (0, 0))
  hG : Kd.C k33 W G gs.length gs
  hs : W.heap[s]? = some (.cells ((List.replicate gs.length (0 : Int)).map (Value.int .i64)).toArray 3 (0, 0))
  hm : W.heap[m]? = some (.cells (ms.map Value.map).toArray 54 (0, 0))
  lm : ms.length = gs.length
  hb : ∀ (i b : Nat), ms[i]? = some (some b) → Bag W b 0 (fun _ => 0)
  ho : ∀ (i : Nat) (g : S33), gs[i]? = some g → i < k → (ordd g ↔ ∃ b : Nat, ms[i]? = some (some b))
  hl : ∀ (i b : Nat), k ≤ i → ms[i]? ≠ some (some b)
  inj : ∀ (i j b : Nat), ms[i]? = some (some b) → ms[j]? = some (some b) → i = j
  ba : w.heap.size ≤ a ∧ w.heap.size ≤ s ∧ w.heap.size ≤ m
  bb : ∀ (i b : Nat), ms[i]? = some (some b) → w.heap.size ≤ b
  gt : ∀ ad : Addr, G = some ad → w.heap.size ≤ ad.block ∧ ∃ cur, W.heap[ad.block]? = some (.cells cur 33 (0, 0))
  bl : Below w.heap.size w W
theorem NewAt.below {w W W' : World} {a : Nat} {G : Option Addr} {cG s m : Nat} {ms : List (Option Nat)} {gs : List S33} {k : Nat} (h : NewAt w W a G cG s m ms gs k) (hb : Below W.heap.size W W') : NewAt w W' a G cG s m ms gs k :=
  { h with ha := (hb.block a (blk_lt h.ha)).trans h.ha, hG := Kd.C_below h.hG hb, hs := (hb.block s (blk_lt h.hs)).trans h.hs, hm := (hb.block m (blk_lt h.hm)).trans h.hm, hb := fun i b h1 => (h.hb i b h1).below hb,
           gt := fun ad e => by obtain ⟨h1, cur, h2⟩ := h.gt ad e; exact ⟨h1, cur, (hb.block _ (blk_lt h2)).trans h2⟩, bl := h.bl.trans (hb.mono h.bl.size) }
theorem NewAt.skip {w W : World} {a : Nat} {G : Option Addr} {cG s m : Nat} {ms : List (Option Nat)} {gs : List S33} {k : Nat} (h : NewAt w W a G cG s m ms gs k) {g : S33} (hg : gs[k]? = some g) (hno : ¬ ordd g) : NewAt w W a G cG s m ms gs (k + 1) :=
  { h with
    ho := fun i g' h1 h2 => by
      by_cases e : i = k
      · subst e
        rw [hg] at h1
        cases h1
        exact ⟨fun x => absurd x hno, fun ⟨b, hb⟩ => absurd hb (h.hl i b (Nat.le_refl _))⟩
      · exact h.ho i g' h1 (by omega)
    hl := fun i b hi => h.hl i b (by omega) }
theorem NewAt.make {w W : World} {a : Nat} {G : Option Addr} {cG s m : Nat} {ms : List (Option Nat)} {gs : List S33} {k : Nat} (h : NewAt w W a G cG s m ms gs k) {g : S33} (hg : gs[k]? = some g) (hyes : ordd g) : NewAt w ((W.alloc (.map #[] 0)).setCell ⟨m, k, none⟩ (.map (some W.heap.size))) a G cG s m (ms.set k (some W.heap.size)) gs (k + 1) := by
  have hk : k < gs.length := by
    rcases Nat.lt_or_ge k gs.length with h1 | h1
    · exact h1
    · rw [List.getElem?_eq_none h1] at hg; cases hg
  have h1 := h.below (below_alloc (Below.refl _ _) (.map #[] 0))
  have hmlt := blk_lt h.hm
  have hne : ∀ {j : Nat} {o : Obj}, (W.alloc (.map #[] 0)).heap[j]? = some o → (∀ cs, o ≠ .cells cs 54 (0, 0)) → ((W.alloc (.map #[] 0)).setCell ⟨m, k, none⟩ (.map (some W.heap.size))).heap[j]? = some o := fun {j o} hj hno => by
    refine (Below.heap_setCell _ _ _ _ (fun e => ?_)).trans hj
    subst e
    rw [h1.hm] at hj
    exact hno _ (Option.some.inj hj).symm
  have hbm : ∀ (i b : Nat), ms[i]? = some (some b) → b < W.heap.size := fun i b hi => (h.hb i b hi).lt
  refine ⟨hne h1.ha (fun cs => by simp), ?_, hne h1.hs (fun cs => by simp), ?_, by rw [List.length_set]; exact h.lm, ?_, ?_, ?_, ?_, h.ba, ?_, ?_, ?_⟩
  · exact C33_ch h1.hG (Ch.set (Ch.refl (fun j => j = m) _) (p := ⟨m, k, none⟩) (Or.inl rfl) _) (fun ad e e' => by
      obtain ⟨_, cur, h2⟩ := h1.gt ad e
      rw [e', h1.hm] at h2
      simp at h2)
  · exact blk_put h1.hm k _ (by rw [List.map_set]; simp)
  · intro i b hi
    by_cases e : i = k
    · subst e
      rw [List.getElem?_set_self (by rw [h.lm]; exact hk)] at hi
      obtain rfl : W.heap.size = b := by simpa using hi
      exact (Bag.made W).same (Below.heap_setCell _ _ _ _ (fun e => by have : W.heap.size = m := e; omega))
    · rw [List.getElem?_set_ne (Ne.symm e)] at hi
      have hB := h1.hb i b hi
      exact hB.same (Below.heap_setCell _ _ _ _ (fun e' => by
        have e2 : b = m := e'
        obtain ⟨es, clock, ho⟩ := hB.obj
        rw [e2, h1.hm] at ho
        simp at ho))
  · intro i g' h2 h3
    by_cases e : i = k
    · subst e
      rw [hg] at h2
      cases h2
      exact ⟨fun _ => ⟨W.heap.size, List.getElem?_set_self (by rw [h.lm]; exact hk)⟩, fun _ => hyes⟩
    · rw [List.getElem?_set_ne (Ne.symm e)]
      exact h.ho i g' h2 (by omega)
  · intro i b hi
    rw [List.getElem?_set_ne (by omega)]
    exact h.hl i b (by omega)
  · intro i j b hi hj
    by_cases e : i = k
    · by_cases e' : j = k
      · omega
      · subst e
        rw [List.getElem?_set_self (by rw [h.lm]; exact hk)] at hi
        rw [List.getElem?_set_ne (Ne.symm e')] at hj
        have := hbm j b hj
        have : W.heap.size = b := by simpa using hi
        omega
    · rw [List.getElem?_set_ne (Ne.symm e)] at hi
      by_cases e' : j = k
      · subst e'
        rw [List.getElem?_set_self (by rw [h.lm]; exact hk)] at hj
        have := hbm i b hi
        have : W.heap.size = b := by simpa using hj
        omega
      · rw [List.getElem?_set_ne (Ne.symm e')] at hj
        exact h.inj i j b hi hj
  · intro i b hi
    by_cases e : i = k
    · subst e
      rw [List.getElem?_set_self (by rw [h.lm]; exact hk)] at hi
      have e2 : W.heap.size = b := by simpa using hi
      have := h.bl.size
      omega
    · rw [List.getElem?_set_ne (Ne.symm e)] at hi
      exact h.bb i b hi
  · intro ad e
    obtain ⟨h2, cur, h3⟩ := h1.gt ad e
    exact ⟨h2, cur, hne h3 (fun cs => by simp)⟩
  · exact h1.bl.setCell (p := ⟨m, k, none⟩) h.ba.2.2 _
theorem NewAt.done {w W : World} {a : Nat} {G : Option Addr} {cG s m : Nat} {ms : List (Option Nat)} {gs : List S33} (h : NewAt w W a G cG s m ms gs gs.length) : Acc w.heap.size W a G cG s m ms gs 0 (List.replicate gs.length 0) (List.replicate gs.length (fun _ => 0)) (fun _ => 0) :=
  { ha := h.ha, hG := h.hG, hs := h.hs, hm := h.hm, ls := by simp, lm := h.lm, lb := by simp
    hb := fun i b f h1 h2 => by
      have := List.mem_of_getElem? h2
      rw [List.mem_replicate] at this
      rw [this.2]
      exact h.hb i b h1
    ho := fun i g h1 => h.ho i g h1 (by
      rcases Nat.lt_or_ge i gs.length with h2 | h2
      · exact h2
      · rw [List.getElem?_eq_none h2] at h1; cases h1)
    inj := h.inj, ba := h.ba, bb := h.bb
    ap := fun ad e hM => by
      obtain ⟨_, cur, h2⟩ := h.gt ad e
      rcases hM with e' | e' | ⟨i, hi⟩
      · rw [e', h.ha] at h2; simp at h2
      · rw [e', h.hs] at h2; simp at h2
      · obtain ⟨es, clock, ho⟩ := (h.hb i _ hi).obj
        rw [h2] at ho; simp at ho }
set_option maxHeartbeats 16000000 in
set_option maxRecDepth 100000 in
theorem new_calls (w : World) (A : Option Addr) (c : Nat) (gs : List S33) (hC : Kd.C k33 w A gs.length gs) (hn : gs.length ≤ 1000) :
    Calls Try.prog 8 #[.slice A gs.length c] w fun e w' => ∃ (a : Nat) (G : Option Addr) (cG s m : Nat) (ms : List (Option Nat)), e = .returned (.pointer (some ⟨a, 0, none⟩)) ∧ Acc w.heap.size w' a G cG s m ms gs 0 (List.replicate gs.length 0) (List.replicate gs.length (fun _ => 0)) (fun _ => 0) ∧ gs.length ≤ cG ∧ Below w.heap.size w w' := by
  have hu33 := Try.underlying33
  have HCL := Aside0.mk (fun (W : World) (hW : Below w.heap.size w W) => clone_calls W A gs.length c gs (Kd.C_below hC hW) hn)
  have HS := Aside0.mk (fun W => make_sums gs.length hn W)
  have HB := Aside0.mk (fun W => make_bags gs.length hn W)
  have HN := Aside0.mk hn
  have HC := Aside0.mk hC
  clear hC hn
  go_enter Try.func8, Try.ntmps8
  go_upto_region 1 with (fail)
  refine start_ (n := 11) (S := fun w' => True) (ds := []) #[false, false, false, false, false, false, false, false, false, false, false] (by kernel_rfl) rfl rfl trivial (fun hHeld => ?_)
  refine pure_ (i := 0) (N := some 6) (v := ?_) (a' := ?_) #[true, false, false, false, false, false, false, false, false, false, false] rfl rfl (by kernel_rfl) (fun _ _ _ h => h) (Or.inl ⟨by rfl, ?_⟩) ?_ ?_
  rotate_left
  · intro w'
    go_simp
    with_reducible rfl
  rotate_left
  · simp only [Act.put, List.setIfInBounds_toArray, List.set_cons_zero, List.set_cons_succ, i64_w, i32_w]
    rfl
  refine pure_ (i := 2) (N := some 8) (v := ?_) (a' := ?_) #[true, false, true, false, false, false, false, false, false, false, false] rfl rfl (by kernel_rfl) (fun _ _ _ h => h) (Or.inl ⟨by rfl, ?_⟩) ?_ ?_
  rotate_left
  · intro w'
    go_simp
    with_reducible rfl
  rotate_left
  · simp only [Act.put, List.setIfInBounds_toArray, List.set_cons_zero, List.set_cons_succ, i64_w, i32_w]
    rfl
  refine pure_ (i := 3) (N := some 9) (v := ?_) (a' := ?_) #[true, false, true, true, false, false, false, false, false, false, false] rfl rfl (by kernel_rfl) (fun _ _ _ h => h) (Or.inl ⟨by rfl, ?_⟩) ?_ ?_
  rotate_left
  · intro w'
    go_simp
    with_reducible rfl
  rotate_left
  · simp only [Act.put, List.setIfInBounds_toArray, List.set_cons_zero, List.set_cons_succ, i64_w, i32_w]
    rfl
  refine pure_ (i := 5) (N := some 11) (v := ?_) (a' := ?_) #[true, false, true, true, false, true, false, false, false, false, false] rfl rfl (by kernel_rfl) (fun _ _ _ h => h) (Or.inl ⟨by rfl, ?_⟩) ?_ ?_
  rotate_left
  · intro w'
    go_simp
    with_reducible rfl
  rotate_left
  · simp only [Act.put, List.setIfInBounds_toArray, List.set_cons_zero, List.set_cons_succ, i64_w, i32_w]
    rfl
  refine pure_ (i := 6) (N := some 12) (v := ?_) (a' := ?_) #[true, false, true, true, false, true, true, false, false, false, false] rfl rfl (by kernel_rfl) (fun _ _ _ h => h) (Or.inl ⟨by rfl, ?_⟩) ?_ ?_
  rotate_left
  · intro w'
    go_simp
    with_reducible rfl
  rotate_left
  · simp only [Act.put, List.setIfInBounds_toArray, List.set_cons_zero, List.set_cons_succ, i64_w, i32_w]
    rfl
  refine join_ (σ := (Option Addr × Nat) × Nat × Nat) 3 #[true, true, true, true, true, true, true, true, false, false, false] (fun x => [(7, .slice x.1.1 gs.length x.1.2), (10, .slice (some ⟨x.2.1, 0, none⟩) gs.length gs.length), (13, .slice (some ⟨x.2.2, 0, none⟩) gs.length gs.length)])
    (fun x W => Kd.C k33 W x.1.1 gs.length gs ∧ gs.length ≤ x.1.2 ∧ (∀ ad, x.1.1 = some ad → w.heap.size ≤ ad.block ∧ ∃ cur, W.heap[ad.block]? = some (.cells cur 33 (0, 0))) ∧ (w.heap.size ≤ x.2.1 ∧ W.heap[x.2.1]? = some (.cells ((List.replicate gs.length (0 : Int)).map (Value.int .i64)).toArray 3 (0, 0))) ∧ (w.heap.size ≤ x.2.2 ∧ W.heap[x.2.2]? = some (.cells ((List.replicate gs.length (none : Option Nat)).map Value.map).toArray 54 (0, 0))) ∧ Below w.heap.size w W) ?hcont ?hev
  case hev =>
    intro hcont
    have FB := Aside0.mk (below_drew (Below.refl w.heap.size w))
    refine three_ #[true, true, true, true, false, true, true, false, false, false, false] #[true, false, true, true, true, true, true, false, false, false, false] #[true, false, true, true, false, true, true, true, false, false, false] (i := 1) (j := 4) (k := 7) rfl rfl rfl rfl rfl rfl (by kernel_rfl) (by decide) (by decide) (by decide) (fun K hK => ?_) (fun K hK => ?_) (fun K hK => ?_)
    · refine goes_ Try.func16 (by kernel_rfl) rfl #[.slice A gs.length c] (by rfl) rfl rfl (by (try simp only [List.map_toArray, List.map_cons, List.map_nil]); first | done | rfl) ?_
      refine (HCL.out _ FB.out).mono ?_
      rintro e x0_ ⟨G, cG, rfl, hg1, hg2, hg3, hb⟩
      refine ⟨_, rfl, ?_⟩
      have FB2 := Aside0.mk (FB.out.trans (hb.mono FB.out.size))
      have F1 := Aside0.mk hg1
      have F2 := Aside0.mk hg2
      have F3 : Aside0 (∀ ad, G = some ad → w.heap.size ≤ ad.block ∧ ∃ cur, x0_.heap[ad.block]? = some (.cells cur 33 (0, 0))) := ⟨fun ad e_ => by obtain ⟨q1, q2⟩ := hg3 ad e_; exact ⟨Nat.le_trans FB.out.size q1, q2⟩⟩
      clear hg1 hg2 hg3 hb FB
      have FB := FB2
      clear FB2
      refine hK.out _ _ trivial (fun hHeld => ?_)
      clear hK K
      refine norm_ (a' := ?_) ?_ ?_
      rotate_left
      · show Act.put _ (some 7) _ = _
        simp only [Act.put, List.setIfInBounds_toArray, List.set_cons_zero, List.set_cons_succ, i64_w, i32_w]
        rfl
      refine two_ #[true, true, true, true, true, true, true, false, false, false, false] #[true, true, true, true, false, true, true, true, false, false, false] (i := 4) (j := 7) rfl rfl rfl rfl (by kernel_rfl) (by decide) (by decide) (fun K hK => ?_) (fun K hK => ?_)
      · obtain ⟨s, hs⟩ : ∃ q, q = (x0_).heap.size := ⟨_, rfl⟩
        obtain ⟨x1_, hx1_⟩ : ∃ q, q = (x0_).alloc (.cells ((List.replicate gs.length (0 : Int)).map (Value.int .i64)).toArray 3) := ⟨_, rfl⟩
        have hrun := HS.out (x0_)
        rw [← hs, ← hx1_] at hrun
        have hb : Below (x0_).heap.size (x0_) x1_ := by rw [hx1_]; exact below_alloc (Below.refl _ _) _
        have F4 : Aside0 (w.heap.size ≤ s ∧ x1_.heap[s]? = some (.cells ((List.replicate gs.length (0 : Int)).map (Value.int .i64)).toArray 3)) := ⟨by rw [hs]; exact FB.out.size, by rw [hs, hx1_]; exact World.alloc_heap_new _ _⟩
        clear hs hx1_
        refine value_ (v := .slice (some ⟨s, 0, none⟩) gs.length gs.length) (w1 := x1_) rfl rfl ?_ ?_
        · clear hb
          first | (go_simp; done) | (go_simp; rfl)
        clear hrun
        have F1' := Aside0.mk (Kd.C_below F1.out hb)
        have F3' : Aside0 (∀ ad, G = some ad → w.heap.size ≤ ad.block ∧ ∃ cur, _) := ⟨fun ad e_ => by obtain ⟨q1, cur, q2⟩ := F3.out ad e_; exact ⟨q1, cur, (hb.block _ (blk_lt q2)).trans q2⟩⟩
        clear F1 F3
        have F1 := F1'
        have F3 := F3'
        clear F1' F3'
        have FB2 := Aside0.mk (FB.out.trans (hb.mono FB.out.size))
        clear hb FB
        have FB := FB2
        clear FB2
        refine hK.out _ _ trivial (fun hHeld => ?_)
        clear hK K
        refine norm_ (a' := ?_) ?_ ?_
        rotate_left
        · show Act.put _ (some 10) _ = _
          simp only [Act.put, List.setIfInBounds_toArray, List.set_cons_zero, List.set_cons_succ, i64_w, i32_w]
          rfl
        refine one_ (i := 7) (N := some 13) #[true, true, true, true, true, true, true, true, false, false, false] rfl rfl (by kernel_rfl) (by decide) (fun K hK => ?_)
        obtain ⟨m, hm⟩ : ∃ q, q = (x1_).heap.size := ⟨_, rfl⟩
        obtain ⟨x2_, hx2_⟩ : ∃ q, q = (x1_).alloc (.cells ((List.replicate gs.length (none : Option Nat)).map Value.map).toArray 54) := ⟨_, rfl⟩
        have hrun := HB.out (x1_)
        rw [← hm, ← hx2_] at hrun
        have hb : Below (x1_).heap.size (x1_) x2_ := by rw [hx2_]; exact below_alloc (Below.refl _ _) _
        have F5 : Aside0 (w.heap.size ≤ m ∧ x2_.heap[m]? = some (.cells ((List.replicate gs.length (none : Option Nat)).map Value.map).toArray 54)) := ⟨by rw [hm]; exact FB.out.size, by rw [hm, hx2_]; exact World.alloc_heap_new _ _⟩
        clear hm hx2_
        refine value_ (v := .slice (some ⟨m, 0, none⟩) gs.length gs.length) (w1 := x2_) rfl rfl ?_ ?_
        · clear hb
          first | (go_simp; done) | (go_simp; rfl)
        clear hrun
        have F1' := Aside0.mk (Kd.C_below F1.out hb)
        have F3' : Aside0 (∀ ad, G = some ad → w.heap.size ≤ ad.block ∧ ∃ cur, _) := ⟨fun ad e_ => by obtain ⟨q1, cur, q2⟩ := F3.out ad e_; exact ⟨q1, cur, (hb.block _ (blk_lt q2)).trans q2⟩⟩
        clear F1 F3
        have F1 := F1'
        have F3 := F3'
        clear F1' F3'
        have F4' := Aside0.mk (And.intro F4.out.1 ((hb.block _ (blk_lt F4.out.2)).trans F4.out.2))
        clear F4
        have F4 := F4'
        clear F4'
        have FB2 := Aside0.mk (FB.out.trans (hb.mono FB.out.size))
        clear hb FB
        have FB := FB2
        clear FB2
        refine hK.out _ _ trivial (fun hHeld => ?_)
        clear hK K
        refine norm_ (a' := ?_) ?_ ?_
        rotate_left
        · show Act.put _ (some 13) _ = _
          simp only [Act.put, List.setIfInBounds_toArray, List.set_cons_zero, List.set_cons_succ, i64_w, i32_w]
          rfl
        exact norm_ (by simp only [putAll, Act.put, List.setIfInBounds_toArray, List.set_cons_zero, List.set_cons_succ]; first | done | rfl) (hcont ((G, cG), s, m) _ ⟨F1.out, F2.out, F3.out, F4.out, F5.out, FB.out⟩)
      · obtain ⟨m, hm⟩ : ∃ q, q = (x0_).heap.size := ⟨_, rfl⟩
        obtain ⟨x1_, hx1_⟩ : ∃ q, q = (x0_).alloc (.cells ((List.replicate gs.length (none : Option Nat)).map Value.map).toArray 54) := ⟨_, rfl⟩
        have hrun := HB.out (x0_)
        rw [← hm, ← hx1_] at hrun
        have hb : Below (x0_).heap.size (x0_) x1_ := by rw [hx1_]; exact below_alloc (Below.refl _ _) _
        have F5 : Aside0 (w.heap.size ≤ m ∧ x1_.heap[m]? = some (.cells ((List.replicate gs.length (none : Option Nat)).map Value.map).toArray 54)) := ⟨by rw [hm]; exact FB.out.size, by rw [hm, hx1_]; exact World.alloc_heap_new _ _⟩
        clear hm hx1_
        refine value_ (v := .slice (some ⟨m, 0, none⟩) gs.length gs.length) (w1 := x1_) rfl rfl ?_ ?_
        · clear hb
          first | (go_simp; done) | (go_simp; rfl)
        clear hrun
        have F1' := Aside0.mk (Kd.C_below F1.out hb)
        have F3' : Aside0 (∀ ad, G = some ad → w.heap.size ≤ ad.block ∧ ∃ cur, _) := ⟨fun ad e_ => by obtain ⟨q1, cur, q2⟩ := F3.out ad e_; exact ⟨q1, cur, (hb.block _ (blk_lt q2)).trans q2⟩⟩
        clear F1 F3
        have F1 := F1'
        have F3 := F3'
        clear F1' F3'
        have FB2 := Aside0.mk (FB.out.trans (hb.mono FB.out.size))
        clear hb FB
        have FB := FB2
        clear FB2
        refine hK.out _ _ trivial (fun hHeld => ?_)
        clear hK K
        refine norm_ (a' := ?_) ?_ ?_
        rotate_left
        · show Act.put _ (some 13) _ = _
          simp only [Act.put, List.setIfInBounds_toArray, List.set_cons_zero, List.set_cons_succ, i64_w, i32_w]
          rfl
        refine one_ (i := 4) (N := some 10) #[true, true, true, true, true, true, true, true, false, false, false] rfl rfl (by kernel_rfl) (by decide) (fun K hK => ?_)
        obtain ⟨s, hs⟩ : ∃ q, q = (x1_).heap.size := ⟨_, rfl⟩
        obtain ⟨x2_, hx2_⟩ : ∃ q, q = (x1_).alloc (.cells ((List.replicate gs.length (0 : Int)).map (Value.int .i64)).toArray 3) := ⟨_, rfl⟩
        have hrun := HS.out (x1_)
        rw [← hs, ← hx2_] at hrun
        have hb : Below (x1_).heap.size (x1_) x2_ := by rw [hx2_]; exact below_alloc (Below.refl _ _) _
        have F4 : Aside0 (w.heap.size ≤ s ∧ x2_.heap[s]? = some (.cells ((List.replicate gs.length (0 : Int)).map (Value.int .i64)).toArray 3)) := ⟨by rw [hs]; exact FB.out.size, by rw [hs, hx2_]; exact World.alloc_heap_new _ _⟩
        clear hs hx2_
        refine value_ (v := .slice (some ⟨s, 0, none⟩) gs.length gs.length) (w1 := x2_) rfl rfl ?_ ?_
        · clear hb
          first | (go_simp; done) | (go_simp; rfl)
        clear hrun
        have F1' := Aside0.mk (Kd.C_below F1.out hb)
        have F3' : Aside0 (∀ ad, G = some ad → w.heap.size ≤ ad.block ∧ ∃ cur, _) := ⟨fun ad e_ => by obtain ⟨q1, cur, q2⟩ := F3.out ad e_; exact ⟨q1, cur, (hb.block _ (blk_lt q2)).trans q2⟩⟩
        clear F1 F3
        have F1 := F1'
        have F3 := F3'
        clear F1' F3'
        have F5' := Aside0.mk (And.intro F5.out.1 ((hb.block _ (blk_lt F5.out.2)).trans F5.out.2))
        clear F5
        have F5 := F5'
        clear F5'
        have FB2 := Aside0.mk (FB.out.trans (hb.mono FB.out.size))
        clear hb FB
        have FB := FB2
        clear FB2
        refine hK.out _ _ trivial (fun hHeld => ?_)
        clear hK K
        refine norm_ (a' := ?_) ?_ ?_
        rotate_left
        · show Act.put _ (some 10) _ = _
          simp only [Act.put, List.setIfInBounds_toArray, List.set_cons_zero, List.set_cons_succ, i64_w, i32_w]
          rfl
        exact norm_ (by simp only [putAll, Act.put, List.setIfInBounds_toArray, List.set_cons_zero, List.set_cons_succ]; first | done | rfl) (hcont ((G, cG), s, m) _ ⟨F1.out, F2.out, F3.out, F4.out, F5.out, FB.out⟩)
    · obtain ⟨s, hs⟩ : ∃ q, q = (w.drew).heap.size := ⟨_, rfl⟩
      obtain ⟨x0_, hx0_⟩ : ∃ q, q = (w.drew).alloc (.cells ((List.replicate gs.length (0 : Int)).map (Value.int .i64)).toArray 3) := ⟨_, rfl⟩
      have hrun := HS.out (w.drew)
      rw [← hs, ← hx0_] at hrun
      have hb : Below (w.drew).heap.size (w.drew) x0_ := by rw [hx0_]; exact below_alloc (Below.refl _ _) _
      have F4 : Aside0 (w.heap.size ≤ s ∧ x0_.heap[s]? = some (.cells ((List.replicate gs.length (0 : Int)).map (Value.int .i64)).toArray 3)) := ⟨by rw [hs]; exact FB.out.size, by rw [hs, hx0_]; exact World.alloc_heap_new _ _⟩
      clear hs hx0_
      refine value_ (v := .slice (some ⟨s, 0, none⟩) gs.length gs.length) (w1 := x0_) rfl rfl ?_ ?_
      · clear hb
        first | (go_simp; done) | (go_simp; rfl)
      clear hrun
      have FB2 := Aside0.mk (FB.out.trans (hb.mono FB.out.size))
      clear hb FB
      have FB := FB2
      clear FB2
      refine hK.out _ _ trivial (fun hHeld => ?_)
      clear hK K
      refine norm_ (a' := ?_) ?_ ?_
      rotate_left
      · show Act.put _ (some 10) _ = _
        simp only [Act.put, List.setIfInBounds_toArray, List.set_cons_zero, List.set_cons_succ, i64_w, i32_w]
        rfl
      refine two_ #[true, true, true, true, true, true, true, false, false, false, false] #[true, false, true, true, true, true, true, true, false, false, false] (i := 1) (j := 7) rfl rfl rfl rfl (by kernel_rfl) (by decide) (by decide) (fun K hK => ?_) (fun K hK => ?_)
      · refine goes_ Try.func16 (by kernel_rfl) rfl #[.slice A gs.length c] (by rfl) rfl rfl (by (try simp only [List.map_toArray, List.map_cons, List.map_nil]); first | done | rfl) ?_
        refine (HCL.out _ FB.out).mono ?_
        rintro e x1_ ⟨G, cG, rfl, hg1, hg2, hg3, hb⟩
        refine ⟨_, rfl, ?_⟩
        have F4' := Aside0.mk (And.intro F4.out.1 ((hb.block _ (blk_lt F4.out.2)).trans F4.out.2))
        clear F4
        have F4 := F4'
        clear F4'
        have FB2 := Aside0.mk (FB.out.trans (hb.mono FB.out.size))
        have F1 := Aside0.mk hg1
        have F2 := Aside0.mk hg2
        have F3 : Aside0 (∀ ad, G = some ad → w.heap.size ≤ ad.block ∧ ∃ cur, x1_.heap[ad.block]? = some (.cells cur 33 (0, 0))) := ⟨fun ad e_ => by obtain ⟨q1, q2⟩ := hg3 ad e_; exact ⟨Nat.le_trans FB.out.size q1, q2⟩⟩
        clear hg1 hg2 hg3 hb FB
        have FB := FB2
        clear FB2
        refine hK.out _ _ trivial (fun hHeld => ?_)
        clear hK K
        refine norm_ (a' := ?_) ?_ ?_
        rotate_left
        · show Act.put _ (some 7) _ = _
          simp only [Act.put, List.setIfInBounds_toArray, List.set_cons_zero, List.set_cons_succ, i64_w, i32_w]
          rfl
        refine one_ (i := 7) (N := some 13) #[true, true, true, true, true, true, true, true, false, false, false] rfl rfl (by kernel_rfl) (by decide) (fun K hK => ?_)
        obtain ⟨m, hm⟩ : ∃ q, q = (x1_).heap.size := ⟨_, rfl⟩
        obtain ⟨x2_, hx2_⟩ : ∃ q, q = (x1_).alloc (.cells ((List.replicate gs.length (none : Option Nat)).map Value.map).toArray 54) := ⟨_, rfl⟩
        have hrun := HB.out (x1_)
        rw [← hm, ← hx2_] at hrun
        have hb : Below (x1_).heap.size (x1_) x2_ := by rw [hx2_]; exact below_alloc (Below.refl _ _) _
        have F5 : Aside0 (w.heap.size ≤ m ∧ x2_.heap[m]? = some (.cells ((List.replicate gs.length (none : Option Nat)).map Value.map).toArray 54)) := ⟨by rw [hm]; exact FB.out.size, by rw [hm, hx2_]; exact World.alloc_heap_new _ _⟩
        clear hm hx2_
        refine value_ (v := .slice (some ⟨m, 0, none⟩) gs.length gs.length) (w1 := x2_) rfl rfl ?_ ?_
        · clear hb
          first | (go_simp; done) | (go_simp; rfl)
        clear hrun
        have F1' := Aside0.mk (Kd.C_below F1.out hb)
        have F3' : Aside0 (∀ ad, G = some ad → w.heap.size ≤ ad.block ∧ ∃ cur, _) := ⟨fun ad e_ => by obtain ⟨q1, cur, q2⟩ := F3.out ad e_; exact ⟨q1, cur, (hb.block _ (blk_lt q2)).trans q2⟩⟩
        clear F1 F3
        have F1 := F1'
        have F3 := F3'
        clear F1' F3'
        have F4' := Aside0.mk (And.intro F4.out.1 ((hb.block _ (blk_lt F4.out.2)).trans F4.out.2))
        clear F4
        have F4 := F4'
        clear F4'
        have FB2 := Aside0.mk (FB.out.trans (hb.mono FB.out.size))
        clear hb FB
        have FB := FB2
        clear FB2
        refine hK.out _ _ trivial (fun hHeld => ?_)
        clear hK K
        refine norm_ (a' := ?_) ?_ ?_
        rotate_left
        · show Act.put _ (some 13) _ = _
          simp only [Act.put, List.setIfInBounds_toArray, List.set_cons_zero, List.set_cons_succ, i64_w, i32_w]
          rfl
        exact norm_ (by simp only [putAll, Act.put, List.setIfInBounds_toArray, List.set_cons_zero, List.set_cons_succ]; first | done | rfl) (hcont ((G, cG), s, m) _ ⟨F1.out, F2.out, F3.out, F4.out, F5.out, FB.out⟩)
      · obtain ⟨m, hm⟩ : ∃ q, q = (x0_).heap.size := ⟨_, rfl⟩
        obtain ⟨x1_, hx1_⟩ : ∃ q, q = (x0_).alloc (.cells ((List.replicate gs.length (none : Option Nat)).map Value.map).toArray 54) := ⟨_, rfl⟩
        have hrun := HB.out (x0_)
        rw [← hm, ← hx1_] at hrun
        have hb : Below (x0_).heap.size (x0_) x1_ := by rw [hx1_]; exact below_alloc (Below.refl _ _) _
        have F5 : Aside0 (w.heap.size ≤ m ∧ x1_.heap[m]? = some (.cells ((List.replicate gs.length (none : Option Nat)).map Value.map).toArray 54)) := ⟨by rw [hm]; exact FB.out.size, by rw [hm, hx1_]; exact World.alloc_heap_new _ _⟩
        clear hm hx1_
        refine value_ (v := .slice (some ⟨m, 0, none⟩) gs.length gs.length) (w1 := x1_) rfl rfl ?_ ?_
        · clear hb
          first | (go_simp; done) | (go_simp; rfl)
        clear hrun
        have F4' := Aside0.mk (And.intro F4.out.1 ((hb.block _ (blk_lt F4.out.2)).trans F4.out.2))
        clear F4
        have F4 := F4'
        clear F4'
        have FB2 := Aside0.mk (FB.out.trans (hb.mono FB.out.size))
        clear hb FB
        have FB := FB2
        clear FB2
        refine hK.out _ _ trivial (fun hHeld => ?_)
        clear hK K
        refine norm_ (a' := ?_) ?_ ?_
        rotate_left
        · show Act.put _ (some 13) _ = _
          simp only [Act.put, List.setIfInBounds_toArray, List.set_cons_zero, List.set_cons_succ, i64_w, i32_w]
          rfl
        refine one_ (i := 1) (N := some 7) #[true, true, true, true, true, true, true, true, false, false, false] rfl rfl (by kernel_rfl) (by decide) (fun K hK => ?_)
        refine goes_ Try.func16 (by kernel_rfl) rfl #[.slice A gs.length c] (by rfl) rfl rfl (by (try simp only [List.map_toArray, List.map_cons, List.map_nil]); first | done | rfl) ?_
        refine (HCL.out _ FB.out).mono ?_
        rintro e x2_ ⟨G, cG, rfl, hg1, hg2, hg3, hb⟩
        refine ⟨_, rfl, ?_⟩
        have F4' := Aside0.mk (And.intro F4.out.1 ((hb.block _ (blk_lt F4.out.2)).trans F4.out.2))
        clear F4
        have F4 := F4'
        clear F4'
        have F5' := Aside0.mk (And.intro F5.out.1 ((hb.block _ (blk_lt F5.out.2)).trans F5.out.2))
        clear F5
        have F5 := F5'
        clear F5'
        have FB2 := Aside0.mk (FB.out.trans (hb.mono FB.out.size))
        have F1 := Aside0.mk hg1
        have F2 := Aside0.mk hg2
        have F3 : Aside0 (∀ ad, G = some ad → w.heap.size ≤ ad.block ∧ ∃ cur, x2_.heap[ad.block]? = some (.cells cur 33 (0, 0))) := ⟨fun ad e_ => by obtain ⟨q1, q2⟩ := hg3 ad e_; exact ⟨Nat.le_trans FB.out.size q1, q2⟩⟩
        clear hg1 hg2 hg3 hb FB
        have FB := FB2
        clear FB2
        refine hK.out _ _ trivial (fun hHeld => ?_)
        clear hK K
        refine norm_ (a' := ?_) ?_ ?_
        rotate_left
        · show Act.put _ (some 7) _ = _
          simp only [Act.put, List.setIfInBounds_toArray, List.set_cons_zero, List.set_cons_succ, i64_w, i32_w]
          rfl
        exact norm_ (by simp only [putAll, Act.put, List.setIfInBounds_toArray, List.set_cons_zero, List.set_cons_succ]; first | done | rfl) (hcont ((G, cG), s, m) _ ⟨F1.out, F2.out, F3.out, F4.out, F5.out, FB.out⟩)
    · obtain ⟨m, hm⟩ : ∃ q, q = (w.drew).heap.size := ⟨_, rfl⟩
      obtain ⟨x0_, hx0_⟩ : ∃ q, q = (w.drew).alloc (.cells ((List.replicate gs.length (none : Option Nat)).map Value.map).toArray 54) := ⟨_, rfl⟩
      have hrun := HB.out (w.drew)
      rw [← hm, ← hx0_] at hrun
      have hb : Below (w.drew).heap.size (w.drew) x0_ := by rw [hx0_]; exact below_alloc (Below.refl _ _) _
      have F5 : Aside0 (w.heap.size ≤ m ∧ x0_.heap[m]? = some (.cells ((List.replicate gs.length (none : Option Nat)).map Value.map).toArray 54)) := ⟨by rw [hm]; exact FB.out.size, by rw [hm, hx0_]; exact World.alloc_heap_new _ _⟩
      clear hm hx0_
      refine value_ (v := .slice (some ⟨m, 0, none⟩) gs.length gs.length) (w1 := x0_) rfl rfl ?_ ?_
      · clear hb
        first | (go_simp; done) | (go_simp; rfl)
      clear hrun
      have FB2 := Aside0.mk (FB.out.trans (hb.mono FB.out.size))
      clear hb FB
      have FB := FB2
      clear FB2
      refine hK.out _ _ trivial (fun hHeld => ?_)
      clear hK K
      refine norm_ (a' := ?_) ?_ ?_
      rotate_left
      · show Act.put _ (some 13) _ = _
        simp only [Act.put, List.setIfInBounds_toArray, List.set_cons_zero, List.set_cons_succ, i64_w, i32_w]
        rfl
      refine two_ #[true, true, true, true, false, true, true, true, false, false, false] #[true, false, true, true, true, true, true, true, false, false, false] (i := 1) (j := 4) rfl rfl rfl rfl (by kernel_rfl) (by decide) (by decide) (fun K hK => ?_) (fun K hK => ?_)
      · refine goes_ Try.func16 (by kernel_rfl) rfl #[.slice A gs.length c] (by rfl) rfl rfl (by (try simp only [List.map_toArray, List.map_cons, List.map_nil]); first | done | rfl) ?_
        refine (HCL.out _ FB.out).mono ?_
        rintro e x1_ ⟨G, cG, rfl, hg1, hg2, hg3, hb⟩
        refine ⟨_, rfl, ?_⟩
        have F5' := Aside0.mk (And.intro F5.out.1 ((hb.block _ (blk_lt F5.out.2)).trans F5.out.2))
        clear F5
        have F5 := F5'
        clear F5'
        have FB2 := Aside0.mk (FB.out.trans (hb.mono FB.out.size))
        have F1 := Aside0.mk hg1
        have F2 := Aside0.mk hg2
        have F3 : Aside0 (∀ ad, G = some ad → w.heap.size ≤ ad.block ∧ ∃ cur, x1_.heap[ad.block]? = some (.cells cur 33 (0, 0))) := ⟨fun ad e_ => by obtain ⟨q1, q2⟩ := hg3 ad e_; exact ⟨Nat.le_trans FB.out.size q1, q2⟩⟩
        clear hg1 hg2 hg3 hb FB
        have FB := FB2
        clear FB2
        refine hK.out _ _ trivial (fun hHeld => ?_)
        clear hK K
        refine norm_ (a' := ?_) ?_ ?_
        rotate_left
        · show Act.put _ (some 7) _ = _
          simp only [Act.put, List.setIfInBounds_toArray, List.set_cons_zero, List.set_cons_succ, i64_w, i32_w]
          rfl
        refine one_ (i := 4) (N := some 10) #[true, true, true, true, true, true, true, true, false, false, false] rfl rfl (by kernel_rfl) (by decide) (fun K hK => ?_)
        obtain ⟨s, hs⟩ : ∃ q, q = (x1_).heap.size := ⟨_, rfl⟩
        obtain ⟨x2_, hx2_⟩ : ∃ q, q = (x1_).alloc (.cells ((List.replicate gs.length (0 : Int)).map (Value.int .i64)).toArray 3) := ⟨_, rfl⟩
        have hrun := HS.out (x1_)
        rw [← hs, ← hx2_] at hrun
        have hb : Below (x1_).heap.size (x1_) x2_ := by rw [hx2_]; exact below_alloc (Below.refl _ _) _
        have F4 : Aside0 (w.heap.size ≤ s ∧ x2_.heap[s]? = some (.cells ((List.replicate gs.length (0 : Int)).map (Value.int .i64)).toArray 3)) := ⟨by rw [hs]; exact FB.out.size, by rw [hs, hx2_]; exact World.alloc_heap_new _ _⟩
        clear hs hx2_
        refine value_ (v := .slice (some ⟨s, 0, none⟩) gs.length gs.length) (w1 := x2_) rfl rfl ?_ ?_
        · clear hb
          first | (go_simp; done) | (go_simp; rfl)
        clear hrun
        have F1' := Aside0.mk (Kd.C_below F1.out hb)
        have F3' : Aside0 (∀ ad, G = some ad → w.heap.size ≤ ad.block ∧ ∃ cur, _) := ⟨fun ad e_ => by obtain ⟨q1, cur, q2⟩ := F3.out ad e_; exact ⟨q1, cur, (hb.block _ (blk_lt q2)).trans q2⟩⟩
        clear F1 F3
        have F1 := F1'
        have F3 := F3'
        clear F1' F3'
        have F5' := Aside0.mk (And.intro F5.out.1 ((hb.block _ (blk_lt F5.out.2)).trans F5.out.2))
        clear F5
        have F5 := F5'
        clear F5'
        have FB2 := Aside0.mk (FB.out.trans (hb.mono FB.out.size))
        clear hb FB
        have FB := FB2
        clear FB2
        refine hK.out _ _ trivial (fun hHeld => ?_)
        clear hK K
        refine norm_ (a' := ?_) ?_ ?_
        rotate_left
        · show Act.put _ (some 10) _ = _
          simp only [Act.put, List.setIfInBounds_toArray, List.set_cons_zero, List.set_cons_succ, i64_w, i32_w]
          rfl
        exact norm_ (by simp only [putAll, Act.put, List.setIfInBounds_toArray, List.set_cons_zero, List.set_cons_succ]; first | done | rfl) (hcont ((G, cG), s, m) _ ⟨F1.out, F2.out, F3.out, F4.out, F5.out, FB.out⟩)
      · obtain ⟨s, hs⟩ : ∃ q, q = (x0_).heap.size := ⟨_, rfl⟩
        obtain ⟨x1_, hx1_⟩ : ∃ q, q = (x0_).alloc (.cells ((List.replicate gs.length (0 : Int)).map (Value.int .i64)).toArray 3) := ⟨_, rfl⟩
        have hrun := HS.out (x0_)
        rw [← hs, ← hx1_] at hrun
        have hb : Below (x0_).heap.size (x0_) x1_ := by rw [hx1_]; exact below_alloc (Below.refl _ _) _
        have F4 : Aside0 (w.heap.size ≤ s ∧ x1_.heap[s]? = some (.cells ((List.replicate gs.length (0 : Int)).map (Value.int .i64)).toArray 3)) := ⟨by rw [hs]; exact FB.out.size, by rw [hs, hx1_]; exact World.alloc_heap_new _ _⟩
        clear hs hx1_
        refine value_ (v := .slice (some ⟨s, 0, none⟩) gs.length gs.length) (w1 := x1_) rfl rfl ?_ ?_
        · clear hb
          first | (go_simp; done) | (go_simp; rfl)
        clear hrun
        have F5' := Aside0.mk (And.intro F5.out.1 ((hb.block _ (blk_lt F5.out.2)).trans F5.out.2))
        clear F5
        have F5 := F5'
        clear F5'
        have FB2 := Aside0.mk (FB.out.trans (hb.mono FB.out.size))
        clear hb FB
        have FB := FB2
        clear FB2
        refine hK.out _ _ trivial (fun hHeld => ?_)
        clear hK K
        refine norm_ (a' := ?_) ?_ ?_
        rotate_left
        · show Act.put _ (some 10) _ = _
          simp only [Act.put, List.setIfInBounds_toArray, List.set_cons_zero, List.set_cons_succ, i64_w, i32_w]
          rfl
        refine one_ (i := 1) (N := some 7) #[true, true, true, true, true, true, true, true, false, false, false] rfl rfl (by kernel_rfl) (by decide) (fun K hK => ?_)
        refine goes_ Try.func16 (by kernel_rfl) rfl #[.slice A gs.length c] (by rfl) rfl rfl (by (try simp only [List.map_toArray, List.map_cons, List.map_nil]); first | done | rfl) ?_
        refine (HCL.out _ FB.out).mono ?_
        rintro e x2_ ⟨G, cG, rfl, hg1, hg2, hg3, hb⟩
        refine ⟨_, rfl, ?_⟩
        have F4' := Aside0.mk (And.intro F4.out.1 ((hb.block _ (blk_lt F4.out.2)).trans F4.out.2))
        clear F4
        have F4 := F4'
        clear F4'
        have F5' := Aside0.mk (And.intro F5.out.1 ((hb.block _ (blk_lt F5.out.2)).trans F5.out.2))
        clear F5
        have F5 := F5'
        clear F5'
        have FB2 := Aside0.mk (FB.out.trans (hb.mono FB.out.size))
        have F1 := Aside0.mk hg1
        have F2 := Aside0.mk hg2
        have F3 : Aside0 (∀ ad, G = some ad → w.heap.size ≤ ad.block ∧ ∃ cur, x2_.heap[ad.block]? = some (.cells cur 33 (0, 0))) := ⟨fun ad e_ => by obtain ⟨q1, q2⟩ := hg3 ad e_; exact ⟨Nat.le_trans FB.out.size q1, q2⟩⟩
        clear hg1 hg2 hg3 hb FB
        have FB := FB2
        clear FB2
        refine hK.out _ _ trivial (fun hHeld => ?_)
        clear hK K
        refine norm_ (a' := ?_) ?_ ?_
        rotate_left
        · show Act.put _ (some 7) _ = _
          simp only [Act.put, List.setIfInBounds_toArray, List.set_cons_zero, List.set_cons_succ, i64_w, i32_w]
          rfl
        exact norm_ (by simp only [putAll, Act.put, List.setIfInBounds_toArray, List.set_cons_zero, List.set_cons_succ]; first | done | rfl) (hcont ((G, cG), s, m) _ ⟨F1.out, F2.out, F3.out, F4.out, F5.out, FB.out⟩)
  case hcont =>
    rintro ⟨⟨G, cG⟩, s, m⟩ W ⟨f1, f2, f3, f4, f5, fb⟩
    dsimp only at f1 f2 f3 f4 f5 ⊢
    have F1 := Aside0.mk f1
    have F2 := Aside0.mk f2
    have F3 := Aside0.mk f3
    have F4 := Aside0.mk f4
    have F5 := Aside0.mk f5
    have FB := Aside0.mk fb
    clear f1 f2 f3 f4 f5 fb
    refine norm_ (a' := ?_) ?_ ?_
    rotate_left
    · simp only [putAll, Act.put, List.setIfInBounds_toArray, List.set_cons_zero, List.set_cons_succ]
      rfl
    refine pure_ (i := 8) (N := some 14) (v := ?_) (a' := ?_) #[true, true, true, true, true, true, true, true, true, false, false] rfl rfl (by kernel_rfl) (fun _ _ _ h => h) (Or.inl ⟨by rfl, ?_⟩) ?_ ?_
    rotate_left
    · intro w'
      go_simp
      with_reducible rfl
    rotate_left
    · simp only [Act.put, List.setIfInBounds_toArray, List.set_cons_zero, List.set_cons_succ, i64_w, i32_w]
      rfl
    refine one_ (i := 9) (N := some 15) #[true, true, true, true, true, true, true, true, true, true, false] rfl rfl (by kernel_rfl) (by decide) (fun K hK => ?_)
    refine value_ (v := .pointer (some ⟨W.heap.size, 0, none⟩)) (w1 := W.alloc (.cells #[.slice G gs.length cG, .int .i64 0, .slice (some ⟨s, 0, none⟩) gs.length gs.length, .slice (some ⟨m, 0, none⟩) gs.length gs.length] 52)) rfl rfl ?_ ?_
    · first | (go_simp; done) | (go_simp; rfl)
    refine hK.out _ _ trivial (fun hHeld => ?_)
    clear hK K
    refine norm_ (a' := ?_) ?_ ?_
    rotate_left
    · show Act.put _ (some 15) _ = _
      simp only [Act.put, List.setIfInBounds_toArray, List.set_cons_zero, List.set_cons_succ, i64_w, i32_w]
      rfl
    refine pure_ (i := 10) (N := some 3) (v := ?_) (a' := ?_) #[true, true, true, true, true, true, true, true, true, true, true] rfl rfl (by kernel_rfl) (fun _ _ _ h => h) (Or.inl ⟨by rfl, ?_⟩) ?_ ?_
    rotate_left
    · intro w'
      go_simp
      with_reducible rfl
    rotate_left
    · simp only [Act.put, List.setIfInBounds_toArray, List.set_cons_zero, List.set_cons_succ, i64_w, i32_w]
      rfl
    refine done_ (by kernel_rfl) ?_
    have hna : NewAt w (W.alloc (.cells #[.slice G gs.length cG, .int .i64 0, .slice (some ⟨s, 0, none⟩) gs.length gs.length, .slice (some ⟨m, 0, none⟩) gs.length gs.length] 52)) W.heap.size G cG s m (List.replicate gs.length none) gs 0 :=
      { ha := World.alloc_heap_new W _
        hG := Kd.C_below F1.out (below_alloc (Below.refl _ _) _)
        hs := (Below.heap_alloc _ _ _ (blk_lt F4.out.2)).trans F4.out.2
        hm := (Below.heap_alloc _ _ _ (blk_lt F5.out.2)).trans F5.out.2
        lm := by simp
        hb := fun i b h => by have := List.mem_of_getElem? h; rw [List.mem_replicate] at this; cases this.2
        ho := fun i g h1 h2 => absurd h2 (Nat.not_lt_zero _)
        hl := fun i b _ h => by have := List.mem_of_getElem? h; rw [List.mem_replicate] at this; cases this.2
        inj := fun i j b h => by have := List.mem_of_getElem? h; rw [List.mem_replicate] at this; cases this.2
        ba := ⟨FB.out.size, F4.out.1, F5.out.1⟩
        bb := fun i b h => by have := List.mem_of_getElem? h; rw [List.mem_replicate] at this; cases this.2
        gt := fun ad e => by obtain ⟨q1, cur, q2⟩ := F3.out ad e; exact ⟨q1, cur, (Below.heap_alloc _ _ _ (blk_lt q2)).trans q2⟩
        bl := FB.out.alloc FB.out.size _ }
    obtain ⟨a, ha⟩ : ∃ a, W.heap.size = a := ⟨_, rfl⟩
    obtain ⟨W1, hW1⟩ : ∃ W1, W.alloc (.cells #[.slice G gs.length cG, .int .i64 0, .slice (some ⟨s, 0, none⟩) gs.length gs.length, .slice (some ⟨m, 0, none⟩) gs.length gs.length] 52) = W1 := ⟨_, rfl⟩
    rw [hW1, ha] at hna
    rw [hW1, ha]
    have NA := Aside0.mk hna
    have CG := Aside0.mk F2.out
    clear hna ha hW1 F1 F2 F3 F4 F5 FB hHeld HCL HS HB
    go_wp2
    go_loopw [18] (fun v18 wr => ∃ (k : Nat) (ms : List (Option Nat)), k ≤ gs.length ∧ v18 = .int .i64 (k : Int) ∧ Aside0 (NewAt w wr a G cG s m ms gs k)) (fun v18 _ => gs.length - (intOf v18).toNat)
    case atStart => exact ⟨0, _, Nat.zero_le _, rfl, NA⟩
    case round =>
      obtain ⟨k, ms, hk, rfl, HNA⟩ := hrel
      have hn := HN.out
      by_cases hlt : k < gs.length
      · have p0 : (0 ≤ (k : Int)) = True := eq_true (Int.natCast_nonneg _)
        have p1 : ((k : Int) < (gs.length : Int)) = True := eq_true (by omega)
        obtain ⟨ad, eA, x0, x1, x2⟩ := at_T33 (Kd.C_below HC.out HNA.out.bl) (k : Int) (by omega) (by omega)
        rw [Int.toNat_natCast] at x0 x1 x2
        obtain ⟨g, hg⟩ : ∃ g, rd_T33 gs (k : Int) = g := ⟨_, rfl⟩
        rw [hg] at x0 x1 x2
        have hgk : gs[k]? = some g := by
          rw [← hg]; unfold rd_T33
          rw [Int.toNat_natCast, List.getD_eq_getElem?_getD, List.getElem?_eq_getElem hlt]; rfl
        have GK := Aside0.mk hgk
        have HLT := Aside0.mk hlt
        subst eA
        clear hg hgk hlt
        obtain ⟨kd, col, nm⟩ := g
        dsimp only at x0 x1 x2
        go_upto_region 5 with (fail)
        refine wp_gen (fun W => W.heap[wr.heap.size]? = some (.cells #[.int .i64 kd, .int .i64 col, .string nm] 33 (0, 0)) ∧ Below wr.heap.size wr W) ⟨World.alloc_heap_new wr _, below_alloc (Below.refl _ _) _⟩ (fun W hW => ?_)
        obtain ⟨e7, hbW⟩ := hW
        have HNW := Aside0.mk (HNA.out.below hbW)
        obtain ⟨g7, hg7⟩ : ∃ g7, wr.heap.size = g7 := ⟨_, rfl⟩
        rw [hg7] at e7 ⊢
        have hz7 := blk3 e7
        clear hg7 hbW x0 x1 x2 e7
        by_cases ho : kd = 2 ∨ kd = 3
        · have hf17 : aggregate_ordered.f kd col nm = some true := by
            unfold aggregate_ordered.f
            by_cases e : kd = 2
            · rw [if_pos e]
            · rw [if_neg e]
              have e3 : kd = 3 := by omega
              rw [e3]; rfl
          have HF17 := Aside0.mk hf17
          have HO := Aside0.mk ho
          clear hf17 ho
          go_upto_region 6 with (go_at_call 17; refine (aggregate_ordered.calls kd col nm true _ HF17.out).mono ?_; rintro e w3 ⟨rfl, hb3⟩; have HB3 := Aside0.mk hb3; clear hb3)
          have HN3 := Aside0.mk (HNW.out.below HB3.out)
          have y3 := (blk4 HN3.out.ha).2.2.2.1
          have hal : w3.alloc (.map #[] 0) = w3.alloc (.map #[] 0) := rfl
          have ne1 : a < w3.heap.size := blk_lt HN3.out.ha
          have ne2 : m < w3.heap.size := blk_lt HN3.out.hm
          have ym : ∃ v, (w3.alloc (.map #[] 0)).cell? ⟨m, k, none⟩ = some v := ⟨_, ((World.cell?_alloc_lt w3 _ ⟨m, k, none⟩ ne2).trans ((blk_cell HN3.out.hm k).trans (List.getElem?_toArray ▸ List.getElem?_eq_getElem (by rw [List.length_map, HN3.out.lm]; exact HLT.out))))⟩
          obtain ⟨vm, ym⟩ := ym
          have yf : (w3.alloc (.map #[] 0)).frozen? ⟨m, k, none⟩ = false := blk_frozen (HN3.out.below (below_alloc (Below.refl _ _) _)).hm k
          have hmm := @run_makeMap Try.prog
          clear hz7 hal ne1 ne2
          go_wp2
          exact ⟨⟨k + 1, _, by have := HLT.out; omega, by go_num, ⟨HN3.out.make GK.out HO.out⟩⟩, by have := HLT.out; simp [intOf]; omega⟩
        · have hf17 : aggregate_ordered.f kd col nm = some false := by
            unfold aggregate_ordered.f
            rw [if_neg (by omega)]
            have e3 : (kd == 3) = false := beq_eq_false_iff_ne.mpr (by omega)
            rw [e3]
          have HF17 := Aside0.mk hf17
          have HO := Aside0.mk ho
          clear hf17 ho
          go_wp2_with (go_at_call 17; refine (aggregate_ordered.calls kd col nm false _ HF17.out).mono ?_; rintro e w3 ⟨rfl, hb3⟩; have HB3 := Aside0.mk hb3; clear hb3)
          go_roundw
          case rel => exact ⟨k + 1, ms, by have := HLT.out; omega, by go_num, ⟨(HNW.out.below HB3.out).skip GK.out HO.out⟩⟩
          case measure => have := HLT.out; simp [intOf]; omega
      · have hkn : k = gs.length := by omega
        have p1 : ((k : Int) < (gs.length : Int)) = False := eq_false (by omega)
        have h0 := HNA.out
        rw [hkn] at h0
        have H0 := Aside0.mk h0
        clear hkn hlt h0 hk
        go_wp2
        go_ret
        exact ⟨a, G, cG, s, m, ms, rfl, H0.out.done, CG.out, H0.out.bl⟩
theorem Bag.len {w : World} {b n : Nat} {f : V → Int} (h : Bag w b n f) {L : List V} (hd : L.Nodup) (hL : ∀ v, v ∈ L ↔ f v ≠ 0) (ty : TypeId) : (Builtin.len_ #[54] ty #[.map (some b)]).run Try.prog w = .ok (.int .i64 (L.length : Int)) w ∧ L.length ≤ n := by
  obtain ⟨D, hown, hat, hhas⟩ := h
  obtain ⟨es, hD, hpw, _⟩ := hown.entries KV
  obtain ⟨es', hD', hko⟩ := hown.keysOf
  obtain rfl : es = es' := by rw [hD] at hD'; simpa using hD'
  have hp := perm_strKeys (es := es) hpw (fun p hp => by
      obtain ⟨v, hv⟩ := hko p hp
      obtain ⟨x, _, hx⟩ := keyOf_inv hv
      exact ⟨kb x, hx⟩) (ss := L.map kb) (List.pairwise_map.2 (hd.imp (fun {a b} hab e => hab (kb_inj e)))) (fun x => by
      constructor
      · intro hx
        obtain ⟨v, hv, rfl⟩ := List.mem_map.1 hx
        rw [← hD]
        exact (hhas v).2 ((hL v).1 hv)
      · intro hx
        rw [has_eq, List.any_eq_true] at hx
        obtain ⟨p, hp, hs⟩ := hx
        obtain ⟨v, hv⟩ := hko p hp
        obtain ⟨y, _, hy⟩ := keyOf_inv hv
        have e1 : p.1 = .string x := WideAt.sameKey_eq hs
        rw [hy] at e1
        have e2 : kb y = x := by simpa using e1
        refine List.mem_map.2 ⟨y, (hL y).2 ((hhas y).1 ?_), e2⟩
        rw [hD, has_eq, List.any_eq_true]
        exact ⟨p, hp, by rw [hy]; exact WideAt.sameKey_self (isKey y)⟩)
  have hl : L.length = Maps.size D := by
    have := hp.length_eq
    rw [List.length_map] at this
    rw [this, hD]
    simp [strKeys, Maps.size]
  have h1 := hown.len Try.underlying54 ty
  rw [← hl] at h1
  exact ⟨h1, by rw [hl]; exact hown.size_le⟩
def Lists (ms : List (Option Nat)) (bags : List (V → Int)) (ls : List (List V)) : Prop := ls.length = ms.length ∧ (∀ i : Nat, ms[i]? = some none → ls[i]? = some []) ∧ ∀ (i b : Nat) (f : V → Int) (L : List V), ms[i]? = some (some b) → bags[i]? = some f → ls[i]? = some L → L.Nodup ∧ ∀ v, v ∈ L ↔ f v ≠ 0
def total (ls : List (List V)) : Nat := (ls.map List.length).sum
theorem total_snoc (ls : List (List V)) (L : List V) : total (ls ++ [L]) = total ls + L.length := by simp [total]
set_option maxHeartbeats 8000000 in
set_option maxRecDepth 100000 in
theorem rows_calls (base : Nat) (w : World) (a : Nat) (G : Option Addr) (cG s m : Nat) (ms : List (Option Nat)) (gs : List S33) (cnt : Int) (sums : List Int) (bags : List (V → Int)) (nb : Nat → Nat) (ls : List (List V))
    (h : Acc base w a G cG s m ms gs cnt sums bags nb) (hgs : gs.length ≤ 1000) (hnb : ∀ i, nb i ≤ 1000000) (hL : Lists ms bags ls) :
    Calls Try.prog 14 #[.pointer (some ⟨a, 0, none⟩)] w fun e w' => e = .returned (.int .i64 (total ls : Int)) ∧ w' = w := by
  have ha0 := blk4 h.ha
  have hlen : ls.length = gs.length := by rw [hL.1, h.lm]
  have hstep : ∀ k, k ≤ ls.length → total (ls.take k) ≤ k * 1000000 := by
    intro k
    induction k with
    | zero => intro _; simp [total]
    | succ k ih =>
      intro hk
      have h1 := ih (by omega)
      have hk' : k < ls.length := by omega
      rw [List.take_add_one, List.getElem?_eq_getElem hk']
      show total (ls.take k ++ [ls[k]]) ≤ _
      rw [total_snoc]
      have h2 : ls[k].length ≤ 1000000 := by
        have hm : k < ms.length := by rw [← hL.1]; exact hk'
        cases hx : ms[k] with
        | none =>
          have := hL.2.1 k (by rw [List.getElem?_eq_getElem hm, hx])
          rw [List.getElem?_eq_getElem hk'] at this
          rw [Option.some.inj this]
          exact Nat.zero_le _
        | some b =>
          have hmb : ms[k]? = some (some b) := by rw [List.getElem?_eq_getElem hm, hx]
          obtain ⟨f, hf, hB⟩ := bag_at h hmb
          have := hL.2.2 k b f ls[k] hmb hf (List.getElem?_eq_getElem hk')
          exact Nat.le_trans (hB.len this.1 this.2 0).2 (hnb k)
      omega
  have H0 := Aside0.mk h
  have HL := Aside0.mk hL
  have HLEN := Aside0.mk hlen
  have HST := Aside0.mk hstep
  have HGS := Aside0.mk hgs
  clear h hL hlen hstep hnb hgs
  go_enter Try.func14, Try.ntmps14
  go_wp2
  go_loop [11, 3] (fun v11 v3 => ∃ k : Nat, k ≤ gs.length ∧ v11 = .int .i64 (k : Int) ∧ v3 = .int .i64 (total (ls.take k) : Int)) (fun v11 _ => gs.length - (intOf v11).toNat)
  case atStart => exact ⟨0, Nat.zero_le _, rfl, by simp [total]⟩
  case round =>
    obtain ⟨k, hk, rfl, rfl⟩ := hrel
    have hgs := HGS.out
    by_cases hlt : k < gs.length
    · have p0 : (0 ≤ (k : Int)) = True := eq_true (Int.natCast_nonneg _)
      have p1 : ((k : Int) < (gs.length : Int)) = True := eq_true (by omega)
      have hm : k < ms.length := by rw [H0.out.lm]; exact hlt
      have hkl : k < ls.length := by rw [HLEN.out]; exact hlt
      have hLk : ls[k]? = some ls[k] := List.getElem?_eq_getElem hkl
      have ht : total (ls.take (k + 1)) = total (ls.take k) + ls[k].length := by
        rw [List.take_add_one, hLk]
        exact total_snoc _ _
      have hb1 := HST.out (k + 1) (by omega)
      obtain ⟨t1, ht1⟩ : ∃ t, t = total (ls.take k) := ⟨_, rfl⟩
      obtain ⟨l1, hl1⟩ : ∃ l, l = ls[k].length := ⟨_, rfl⟩
      rw [← ht1, ← hl1] at ht
      rw [← ht1]
      have T := Aside0.mk ht
      have hbb : t1 + l1 ≤ 1001000000 := by rw [ht] at hb1; omega
      cases hx : ms[k] with
      | none =>
        have hmk : ms[k]? = some none := by rw [List.getElem?_eq_getElem hm, hx]
        have hz : l1 = 0 := by
          have := HL.out.2.1 k hmk
          rw [hLk] at this
          rw [hl1, Option.some.inj this]; rfl
        subst hz
        have hc : w.cell? ⟨m, k, none⟩ = some (.map none) := (blk_cell H0.out.hm k).trans (by simp [hmk])
        clear hx hmk hl1 ht1 ht hb1 hLk hm hkl
        go_wp2
        go_round
        case rel => exact ⟨k + 1, by omega, by go_num, by rw [T.out]; go_num⟩
        case measure => simp [intOf]; omega
      | some b =>
        have hmb : ms[k]? = some (some b) := by rw [List.getElem?_eq_getElem hm, hx]
        obtain ⟨f, hf, hB⟩ := bag_at H0.out hmb
        have h2 := HL.out.2.2 k b f ls[k] hmb hf hLk
        have hlen := fun ty => (hB.len h2.1 h2.2 ty).1
        rw [← hl1] at hlen
        have hc : w.cell? ⟨m, k, none⟩ = some (.map (some b)) := (blk_cell H0.out.hm k).trans (by simp [hmb])
        clear hx hmb hl1 ht1 ht hb1 hLk hm hkl hB h2 hf
        go_wp2
        go_round
        case rel => exact ⟨k + 1, by omega, by go_num, by rw [T.out]; go_num⟩
        case measure => simp [intOf]; omega
    · have hkn : k = gs.length := by omega
      have p1 : ((k : Int) < (gs.length : Int)) = False := eq_false (by omega)
      have e1 : ls.take k = ls := List.take_of_length_le (by rw [HLEN.out]; omega)
      rw [e1]
      clear hkn e1 hlt hk
      go_wp2
      go_ret
      exact ⟨rfl, rfl⟩
theorem pred27 (w : World) : Go.Proofs.PredAt Try.prog 27 #[] (Value.int .i64) (fun n => n != 0) w := fun W r _ => by
  unfold Go.Proofs.FnGives
  go_enter Try.func27, Try.ntmps27
  go_wp2
  go_ret
  exact ⟨rfl, 0, rfl⟩
theorem contains_calls (w : World) (s n : Nat) (sums : List Int) (hs : w.heap[s]? = some (.cells (sums.map (Value.int .i64)).toArray 3 (0, 0))) (hl : sums.length = n) (hn : n ≤ 1000) :
    Calls Try.prog 26 #[.slice (some ⟨s, 0, none⟩) n n, .func (.func 27) #[] #[]] w fun e w' => e = .returned (.bool (sums.any fun x => x != 0)) ∧ ∃ q, w' = w.drewN q := by
  have h := Go.Proofs.AnyE.slices_ContainsFunc conI (Value.int .i64) (fun n => n != 0) 27 #[] (enters_of Try.func27 (by kernel_rfl) rfl) s 0 n n sums w (pred27 w) (by omega) (by omega) (fun j hj => by
    rw [blk_cell hs, Nat.zero_add, getElem!_pos sums j hj]
    simp [hj])
  change Calls Try.prog 26 _ _ _ at h
  rw [List.take_of_length_le (by omega)] at h
  exact h
set_option maxHeartbeats 8000000 in
set_option maxRecDepth 100000 in
theorem empty_calls (base : Nat) (w : World) (a : Nat) (G : Option Addr) (cG s m : Nat) (ms : List (Option Nat)) (gs : List S33) (cnt : Int) (sums : List Int) (bags : List (V → Int)) (nb : Nat → Nat) (ls : List (List V))
    (h : Acc base w a G cG s m ms gs cnt sums bags nb) (hgs : gs.length ≤ 1000) (hnb : ∀ i, nb i ≤ 1000000) (hL : Lists ms bags ls) (r : Bool) (hr : r = (cnt == 0 && ((total ls : Int) == 0 && !(sums.any fun x => x != 0)))) :
    Calls Try.prog 15 #[.pointer (some ⟨a, 0, none⟩)] w fun e w' => e = .returned (.bool r) ∧ Below w.heap.size w w' := by
  have ha0 := blk4 h.ha
  have hrows := rows_calls base w a G cG s m ms gs cnt sums bags nb ls h hgs hnb hL
  have hcon := contains_calls w s gs.length sums h.hs h.ls hgs
  have HR := Aside0.mk hr
  have HROWS := Aside0.mk hrows
  have HCON := Aside0.mk hcon
  clear hr hrows hcon h hL hnb hgs
  by_cases hc : cnt = 0
  · have zc : (cnt == 0) = true := beq_iff_eq.mpr hc
    by_cases ht : (total ls : Int) = 0
    · have zt : ((total ls : Int) == 0) = true := beq_iff_eq.mpr ht
      have er : r = !(sums.any fun x => x != 0) := by rw [HR.out, zc, zt]; simp
      subst er
      have HT := Aside0.mk ht
      clear ht hc
      obtain ⟨tt, htt⟩ : ∃ t, t = (total ls : Int) := ⟨_, rfl⟩
      rw [← htt] at zt HROWS
      obtain ⟨bb, hbb⟩ : ∃ t, t = (sums.any fun x => x != 0) := ⟨_, rfl⟩
      rw [← hbb] at HCON ⊢
      clear htt hbb HR
      go_enter Try.func15, Try.ntmps15
      go_wp2_with (first
        | (go_at_call 14; refine HROWS.out.mono ?_; rintro e w' ⟨rfl, rfl⟩)
        | (go_at_call 26; refine HCON.out.mono ?_; rintro e w' ⟨rfl, q, rfl⟩))
      go_ret
      exact ⟨by simp, pw_below_drewN (Below.refl _ _) _⟩
    · have zt : ((total ls : Int) == 0) = false := beq_eq_false_iff_ne.mpr ht
      have er : r = false := by rw [HR.out, zc, zt]; simp
      subst er
      clear ht hc
      obtain ⟨tt, htt⟩ : ∃ t, t = (total ls : Int) := ⟨_, rfl⟩
      rw [← htt] at zt HROWS
      clear htt HR
      go_enter Try.func15, Try.ntmps15
      go_wp2_with (first
        | (go_at_call 14; refine HROWS.out.mono ?_; rintro e w' ⟨rfl, rfl⟩))
      go_ret
      exact ⟨by simp, Below.refl _ _⟩
  · have zc : (cnt == 0) = false := beq_eq_false_iff_ne.mpr hc
    have er : r = false := by rw [HR.out, zc]; simp
    subst er
    clear hc HR
    go_enter Try.func15, Try.ntmps15
    go_wp2
    go_ret
    exact ⟨by simp, Below.refl _ _⟩
theorem C43_of_flat {w : World} {g : Nat} {rs : List V} (h : ∀ i u, (flat rs)[i]? = some u → w.cell? ⟨g, i, none⟩ = some u) (hn : rs.length ≤ 9223372036854775807) : Kd.C k43 w (some ⟨g, 0, none⟩) rs.length (rs.map toS) := by
  refine ⟨by simp, hn, fun _ => ⟨_, rfl, fun j p hj => ?_⟩⟩
  rw [List.getElem?_map] at hj
  obtain ⟨v, hv, rfl⟩ := Option.map_eq_some_iff.1 hj
  refine ⟨cells v, rfl, k43_mk w (toS v), fun i u hu => ?_⟩
  have hi : i < 3 := by
    rcases Nat.lt_or_ge i 3 with h1 | h1
    · exact h1
    · rw [List.getElem?_eq_none (by simp [cells]; omega)] at hu; cases hu
  rw [add_plain]
  exact h _ _ (by show (flat rs)[j * 3 + i]? = some u; rw [flat_get rs j i v hv hi]; exact hu)
theorem C33_of_cells {w : World} {g : Nat} {gs : List S33} (h : ∀ j p, gs[j]? = some p → ∀ i u, [Value.int .i64 p.f0, Value.int .i64 p.f1, Value.string p.f2][i]? = some u → w.cell? ⟨g, j * 3 + i, none⟩ = some u) (hn : gs.length ≤ 9223372036854775807) : Kd.C k33 w (some ⟨g, 0, none⟩) gs.length gs := by
  refine ⟨rfl, hn, fun _ => ⟨_, rfl, fun j p hj => ⟨[.int .i64 p.f0, .int .i64 p.f1, .string p.f2], rfl, k33_mk w p, fun i u hu => ?_⟩⟩⟩
  rw [add_plain]
  exact h j p hj i u hu
theorem own_read {w : World} {base : Nat} {v : Value} {rs : List V} (h : w.ownsRow base 43 3 v rs.length (flat rs)) (hn : 0 < rs.length) (hm : rs.length ≤ 1000) : ∃ g cap, v = .slice (some ⟨g, 0, none⟩) rs.length cap ∧ base ≤ g ∧ Kd.C k43 w (some ⟨g, 0, none⟩) rs.length (rs.map toS) ∧ rs.length ≤ cap := by
  rcases h.2 with ⟨_, h0⟩ | ⟨g, cap, cur, rfl, hbg, hg, h1, h2, h3, h4⟩
  · omega
  · refine ⟨g, cap, rfl, hbg, C43_of_flat (fun i u hu => ?_) (by omega), h1⟩
    rw [blk_cell hg]
    rw [← h4, List.getElem?_take] at hu
    split at hu
    · rw [← Array.getElem?_toList]; exact hu
    · cases hu
def mkV (x : Int) (hx : (Lit.int .i64 x).wf = true) : V := ⟨0, x, ⟨#[]⟩, by decide, hx, by decide⟩
theorem intV_mk {x : Int} (hx : (Lit.int .i64 x).wf = true) : intV x = mkV x hx := by unfold intV mkV; rw [dif_pos hx]
def gs3 : List S33 := [⟨0, 0, ⟨#[]⟩⟩, ⟨1, 0, ⟨#[]⟩⟩, ⟨3, 0, ⟨#[]⟩⟩]
theorem addS3 (x y z : Int) (v : V) (d : Int) : addS gs3 [x, y, z] [v] d = [x, wrap64 (y + wrap64 (d * v.n)), z] := by simp [addS, gs3, atV]
theorem addB3 (f g h : V → Int) (v : V) (d : Int) : addB gs3 [f, g, h] [v] d = [f, g, set h v (wrap64 (h v + d))] := by simp [addB, gs3, atV]
theorem add_lit (base : Nat) (W : World) (a : Nat) (G : Option Addr) (cG s m : Nat) (ms : List (Option Nat)) (gs : List S33) (cnt : Int) (sums : List Int) (bags : List (V → Int)) (nb : Nat → Nat) (h : Acc base W a G cG s m ms gs cnt sums bags nb) (hbase : base ≤ W.heap.size) (hgs : gs.length ≤ 1000) (hnb : ∀ i, nb i ≤ 1000000) (x : Int) (hx : (Lit.int .i64 x).wf = true) (d : Int) :
    Calls Try.prog 10 #[.pointer (some ⟨a, 0, none⟩), .slice (some ⟨W.heap.size, 0, none⟩) 1 1, .int .i64 d] (W.alloc (.cells #[.int .i64 0, .int .i64 x, .string ⟨#[]⟩] 43)) fun e w' => e = .returned (.tuple #[]) ∧ Acc base w' a G cG s m ms gs (wrap64 (cnt + d)) (addS gs sums [mkV x hx] d) (addB gs bags [mkV x hx] d) (fun i => nb i + 1) ∧ Below base W w' := by
  have hR : Kd.C k43 (W.alloc (.cells #[.int .i64 0, .int .i64 x, .string ⟨#[]⟩] 43)) (some ⟨W.heap.size, 0, none⟩) [mkV x hx].length ([mkV x hx].map toS) := C43_of_flat (fun i u hu => by
      have h_ := cells_new3 W (mkV x hx) i u (by rw [show cells (mkV x hx) = flat [mkV x hx] by simp [flat]]; exact hu)
      rw [add_plain] at h_
      exact h_) (show (1 : Nat) ≤ _ by omega)
  have hlt := bag_lt h
  have hq := add_calls base (W.alloc (.cells #[.int .i64 0, .int .i64 x, .string ⟨#[]⟩] 43)) a G cG s m ms gs cnt sums bags nb (some ⟨W.heap.size, 0, none⟩) 1 [mkV x hx] d (h.below (below_alloc (Below.refl _ _) _)) (by simp; omega) hgs hnb hR (Nat.le_refl 1) (fun _ ad e hM => by
    cases e
    exact absurd (hlt _ hM) (Nat.lt_irrefl _))
  refine hq.mono fun e w' ⟨he, hA, hc⟩ => ⟨he, hA, ?_⟩
  exact ((Below.refl base W).alloc hbase _).trans (hc.below (by simp; omega) h.mut_base)
theorem result_lit (base : Nat) (W : World) (a : Nat) (G : Option Addr) (cG s m : Nat) (ms : List (Option Nat)) (cnt s0 s1 s2 : Int) (f0 f1 f : V → Int) (nb : Nat → Nat) (h : Acc base W a G cG s m ms gs3 cnt [s0, s1, s2] [f0, f1, f] nb) (hnb : ∀ i, nb i ≤ 1000000)
    (hc : (Lit.int .i64 cnt).wf = true) (hs : ∀ x ∈ [s0, s1, s2], (Lit.int .i64 x).wf = true) (hpos : ∀ g ∈ [f0, f1, f], ∀ v, 0 ≤ g v) (r : V) (hr : ∀ q, Best 3 f q → q = r) :
    Calls Try.prog 11 #[.pointer (some ⟨a, 0, none⟩)] W fun e w' => ∃ g cap, e = .returned (.slice (some ⟨g, 0, none⟩) 3 cap) ∧ Kd.C k43 w' (some ⟨g, 0, none⟩) 3 [⟨0, cnt, ⟨#[]⟩⟩, ⟨0, s1, ⟨#[]⟩⟩, toS r] ∧ 3 ≤ cap ∧ Below W.heap.size W w' := by
  refine (result_calls base W a G cG s m ms gs3 cnt _ _ nb h (by decide) hnb (fun g hg => by simp [gs3] at hg; rcases hg with rfl | rfl | rfl <;> decide) hc hs hpos).mono ?_
  rintro e w' ⟨v, rs, rfl, hlen, hres, hown, hb⟩
  have hl3 : rs.length = 3 := hlen
  obtain ⟨x, y, z, rfl⟩ := list3 hl3
  have q0 := (hres 0 _ _ _ x rfl rfl rfl rfl).1 rfl
  have q1 := (hres 1 _ _ _ y rfl rfl rfl rfl).2.1 rfl
  have q2 := hr z ((hres 2 _ _ _ z rfl rfl rfl rfl).2.2 (Or.inr rfl))
  obtain ⟨g, cap, rfl, _, hC, hcap⟩ := own_read hown (show 0 < 3 by omega) (show 3 ≤ 1000 by omega)
  refine ⟨g, cap, rfl, ?_, hcap, hb⟩
  rw [q0, q1, q2, intV_mk hc, intV_mk (hs s1 (by simp))] at hC
  exact hC
theorem lists3 {base : Nat} {W : World} {a : Nat} {G : Option Addr} {cG s m : Nat} {ms : List (Option Nat)} {cnt : Int} {sums : List Int} {f0 f1 f : V → Int} {nb : Nat → Nat} (h : Acc base W a G cG s m ms gs3 cnt sums [f0, f1, f] nb) {L : List V} (hd : L.Nodup) (hL : ∀ v, v ∈ L ↔ f v ≠ 0) : Lists ms [f0, f1, f] [[], [], L] := by
  have hl : ms.length = 3 := h.lm
  obtain ⟨x, y, z, rfl⟩ := list3 hl
  have o0 := h.ho 0 _ rfl
  have o1 := h.ho 1 _ rfl
  have o2 := h.ho 2 _ rfl
  have x0 : x = none := by
    cases x with
    | none => rfl
    | some b => exact absurd (o0.2 ⟨b, rfl⟩) (by unfold ordd; decide)
  have y0 : y = none := by
    cases y with
    | none => rfl
    | some b => exact absurd (o1.2 ⟨b, rfl⟩) (by unfold ordd; decide)
  obtain ⟨b, hb⟩ := o2.1 (Or.inr rfl)
  have z0 : z = some b := by simpa using hb
  subst x0 y0 z0
  refine ⟨rfl, fun i hi => ?_, fun i b' f' L' h1 h2 h3 => ?_⟩
  · match i, hi with
    | 0, _ => rfl
    | 1, _ => rfl
    | 2, hi => simp at hi
    | i + 3, hi => simp at hi
  · match i, h1, h2, h3 with
    | 0, h1, _, _ => simp at h1
    | 1, h1, _, _ => simp at h1
    | 2, h1, h2, h3 =>
      simp at h2 h3
      subst h2 h3
      exact ⟨hd, hL⟩
    | i + 3, h1, _, _ => simp at h1
def h0 : V → Int := fun _ => 0
theorem wf5 : (Lit.int .i64 5).wf = true := by decide
theorem wf9 : (Lit.int .i64 9).wf = true := by decide
def v5 : V := mkV 5 wf5
def v9 : V := mkV 9 wf9
theorem v59 : v5 ≠ v9 := fun e => by have : (5 : Int) = 9 := congrArg V.n e; omega
noncomputable def h1 : V → Int := set h0 v5 2
noncomputable def h2 : V → Int := set h1 v9 1
noncomputable def h3 : V → Int := set h2 v9 0
noncomputable def h4 : V → Int := set h3 v5 0
theorem h1_at (v : V) : h1 v = if v = v5 then 2 else 0 := rfl
theorem h2_at (v : V) : h2 v = if v = v9 then 1 else if v = v5 then 2 else 0 := rfl
theorem h3_at (v : V) : h3 v = if v = v5 then 2 else 0 := by
  show (if v = v9 then 0 else if v = v9 then 1 else if v = v5 then 2 else 0) = _
  by_cases e : v = v9
  · subst e; rw [if_pos rfl, if_neg (Ne.symm v59)]
  · rw [if_neg e, if_neg e]
theorem h4_at (v : V) : h4 v = 0 := by
  show (if v = v5 then 0 else h3 v) = 0
  by_cases e : v = v5
  · rw [if_pos e]
  · rw [if_neg e, h3_at, if_neg e]
theorem h2_pos (v : V) : 0 ≤ h2 v := by rw [h2_at]; split; decide; split <;> decide
theorem h3_pos (v : V) : 0 ≤ h3 v := by rw [h3_at]; split <;> decide
theorem best_h2 : ∀ q, Best 3 h2 q → q = v9 := by
  rintro q (⟨hall, _⟩ | ⟨h, _, hm⟩)
  · have := hall v9; rw [h2_at, if_pos rfl] at this; omega
  · have hq : q = v9 ∨ q = v5 := by
      rw [h2_at] at h
      by_cases e : q = v9
      · exact Or.inl e
      · rw [if_neg e] at h
        by_cases e' : q = v5
        · exact Or.inr e'
        · rw [if_neg e'] at h; exact absurd rfl h
    rcases hq with e | e
    · exact e
    · subst e
      have h9 := hm (by decide) v9 (by rw [h2_at, if_pos rfl]; decide)
      have : cf v9 v5 = 1 := by decide
      omega
theorem best_h3 : ∀ q, Best 3 h3 q → q = v5 := by
  rintro q (⟨hall, _⟩ | ⟨h, _, hm⟩)
  · have := hall v5; rw [h3_at, if_pos rfl] at this; omega
  · rw [h3_at] at h
    by_cases e : q = v5
    · exact e
    · rw [if_neg e] at h; exact absurd rfl h
theorem best_h4 : ∀ q, Best 3 h4 q → q = default := by
  rintro q (⟨_, e⟩ | ⟨h, _, hm⟩)
  · exact e
  · exact absurd (h4_at q) h
theorem add3 (base : Nat) (W : World) (a : Nat) (G : Option Addr) (cG s m : Nat) (ms : List (Option Nat)) (cnt s1 : Int) (f : V → Int) (N : Nat) (h : Acc base W a G cG s m ms gs3 cnt [0, s1, 0] [h0, h0, f] (fun _ => N)) (hbase : base ≤ W.heap.size) (hN : N ≤ 1000) (x : Int) (hx : (Lit.int .i64 x).wf = true) (d c' s1' y : Int)
    (e1 : wrap64 (cnt + d) = c') (e2 : wrap64 (s1 + wrap64 (d * x)) = s1') (e3 : wrap64 (f (mkV x hx) + d) = y) :
    Calls Try.prog 10 #[.pointer (some ⟨a, 0, none⟩), .slice (some ⟨W.heap.size, 0, none⟩) 1 1, .int .i64 d] (W.alloc (.cells #[.int .i64 0, .int .i64 x, .string ⟨#[]⟩] 43)) fun e w' => e = .returned (.tuple #[]) ∧ Acc base w' a G cG s m ms gs3 c' [0, s1', 0] [h0, h0, set f (mkV x hx) y] (fun _ => N + 1) ∧ Below base W w' := by
  refine (add_lit base W a G cG s m ms gs3 cnt _ _ _ h hbase (by decide) (fun i => by omega) x hx d).mono ?_
  rintro e w' ⟨he, hA, hb⟩
  rw [addS3, addB3, e1, e3, show (mkV x hx).n = x from rfl, e2] at hA
  exact ⟨he, hA, hb⟩
theorem same3 (a b c : S43) (r : Bool) (h : errataref03_Same.f 9 [a, b, c] [a, b, c] = some true) (W : World) (g cap g' cap' : Nat) (h1 : Kd.C k43 W (some ⟨g, 0, none⟩) 3 [a, b, c]) (h2 : 3 ≤ cap) (h3 : Kd.C k43 W (some ⟨g', 0, none⟩) 3 [a, b, c]) (h4 : 3 ≤ cap') :
    Calls Try.prog 13 #[.slice (some ⟨g, 0, none⟩) 3 cap, .slice (some ⟨g', 0, none⟩) 3 cap'] W fun e w' => e = .returned (.bool true) ∧ Below W.heap.size W w' :=
  errataref03_Same.calls 9 _ cap [a, b, c] _ cap' [a, b, c] true W h1 h2 h3 h4 h
theorem lit3 (W : World) (x y z : Int) : Kd.C k43 (W.alloc (.cells #[.int .i64 0, .int .i64 x, .string ⟨#[]⟩, .int .i64 0, .int .i64 y, .string ⟨#[]⟩, .int .i64 0, .int .i64 z, .string ⟨#[]⟩] 43)) (some ⟨W.heap.size, 0, none⟩) 3 [⟨0, x, ⟨#[]⟩⟩, ⟨0, y, ⟨#[]⟩⟩, ⟨0, z, ⟨#[]⟩⟩] := by
  refine ⟨rfl, by omega, fun _ => ⟨_, rfl, fun j p hj => ?_⟩⟩
  have key : ∀ i u, (#[Value.int .i64 0, .int .i64 x, .string ⟨#[]⟩, .int .i64 0, .int .i64 y, .string ⟨#[]⟩, .int .i64 0, .int .i64 z, .string ⟨#[]⟩] : Array Value)[i]? = some u → (W.alloc (.cells #[.int .i64 0, .int .i64 x, .string ⟨#[]⟩, .int .i64 0, .int .i64 y, .string ⟨#[]⟩, .int .i64 0, .int .i64 z, .string ⟨#[]⟩] 43)).cell? ⟨W.heap.size, i, none⟩ = some u := fun i u hu => (blk_cell (World.alloc_heap_new W _) i).trans hu
  match j, hj with
  | 0, hj =>
    have hp : (⟨0, x, ⟨#[]⟩⟩ : S43) = p := Option.some.inj hj
    subst hp
    refine ⟨_, rfl, k43_mk _ _, fun i u hu => ?_⟩
    rw [add_plain]
    match i, hu with
    | 0, hu => exact key 0 u hu
    | 1, hu => exact key 1 u hu
    | 2, hu => exact key 2 u hu
    | i + 3, hu => simp at hu
  | 1, hj =>
    have hp : (⟨0, y, ⟨#[]⟩⟩ : S43) = p := Option.some.inj hj
    subst hp
    refine ⟨_, rfl, k43_mk _ _, fun i u hu => ?_⟩
    rw [add_plain]
    match i, hu with
    | 0, hu => exact key 3 u hu
    | 1, hu => exact key 4 u hu
    | 2, hu => exact key 5 u hu
    | i + 3, hu => simp at hu
  | 2, hj =>
    have hp : (⟨0, z, ⟨#[]⟩⟩ : S43) = p := Option.some.inj hj
    subst hp
    refine ⟨_, rfl, k43_mk _ _, fun i u hu => ?_⟩
    rw [add_plain]
    match i, hu with
    | 0, hu => exact key 6 u hu
    | 1, hu => exact key 7 u hu
    | 2, hu => exact key 8 u hu
    | i + 3, hu => simp at hu
  | j + 3, hj => simp at hj
theorem lit33 (W : World) : Kd.C k33 (W.alloc (.cells #[.int .i64 0, .int .i64 0, .string ⟨#[]⟩, .int .i64 1, .int .i64 0, .string ⟨#[]⟩, .int .i64 3, .int .i64 0, .string ⟨#[]⟩] 33)) (some ⟨W.heap.size, 0, none⟩) 3 gs3 := by
  have key : ∀ i u, (#[Value.int .i64 0, .int .i64 0, .string ⟨#[]⟩, .int .i64 1, .int .i64 0, .string ⟨#[]⟩, .int .i64 3, .int .i64 0, .string ⟨#[]⟩] : Array Value)[i]? = some u → (W.alloc (.cells #[.int .i64 0, .int .i64 0, .string ⟨#[]⟩, .int .i64 1, .int .i64 0, .string ⟨#[]⟩, .int .i64 3, .int .i64 0, .string ⟨#[]⟩] 33)).cell? ⟨W.heap.size, i, none⟩ = some u := fun i u hu => (blk_cell (World.alloc_heap_new W _) i).trans hu
  refine C33_of_cells (gs := gs3) (fun j p hj i u hu => ?_) (by decide)
  match j, hj with
  | 0, hj =>
    have hp : (⟨0, 0, ⟨#[]⟩⟩ : S33) = p := Option.some.inj hj
    subst hp
    match i, hu with
    | 0, hu => exact key 0 u hu
    | 1, hu => exact key 1 u hu
    | 2, hu => exact key 2 u hu
    | i + 3, hu => simp at hu
  | 1, hj =>
    have hp : (⟨1, 0, ⟨#[]⟩⟩ : S33) = p := Option.some.inj hj
    subst hp
    match i, hu with
    | 0, hu => exact key 3 u hu
    | 1, hu => exact key 4 u hu
    | 2, hu => exact key 5 u hu
    | i + 3, hu => simp at hu
  | 2, hj =>
    have hp : (⟨3, 0, ⟨#[]⟩⟩ : S33) = p := Option.some.inj hj
    subst hp
    match i, hu with
    | 0, hu => exact key 6 u hu
    | 1, hu => exact key 7 u hu
    | 2, hu => exact key 8 u hu
    | i + 3, hu => simp at hu
  | j + 3, hj => simp [gs3] at hj
theorem sameA : errataref03_Same.f 9 [⟨0, 3, ⟨#[]⟩⟩, ⟨0, 19, ⟨#[]⟩⟩, ⟨0, 9, ⟨#[]⟩⟩] [⟨0, 3, ⟨#[]⟩⟩, ⟨0, 19, ⟨#[]⟩⟩, ⟨0, 9, ⟨#[]⟩⟩] = some true := by kernel_rfl
theorem sameB : errataref03_Same.f 9 [⟨0, 2, ⟨#[]⟩⟩, ⟨0, 10, ⟨#[]⟩⟩, ⟨0, 5, ⟨#[]⟩⟩] [⟨0, 2, ⟨#[]⟩⟩, ⟨0, 10, ⟨#[]⟩⟩, ⟨0, 5, ⟨#[]⟩⟩] = some true := by kernel_rfl
theorem sameC : errataref03_Same.f 9 [⟨0, 0, ⟨#[]⟩⟩, ⟨0, 0, ⟨#[]⟩⟩, ⟨0, 0, ⟨#[]⟩⟩] [⟨0, 0, ⟨#[]⟩⟩, ⟨0, 0, ⟨#[]⟩⟩, ⟨0, 0, ⟨#[]⟩⟩] = some true := by kernel_rfl
theorem newK (w : World) : Calls Try.prog 8 #[.slice (some ⟨w.heap.size, 0, none⟩) 3 3] (w.alloc (.cells #[.int .i64 0, .int .i64 0, .string ⟨#[]⟩, .int .i64 1, .int .i64 0, .string ⟨#[]⟩, .int .i64 3, .int .i64 0, .string ⟨#[]⟩] 33)) fun e w' => ∃ (base a : Nat) (G : Option Addr) (cG s m : Nat) (ms : List (Option Nat)), e = .returned (.pointer (some ⟨a, 0, none⟩)) ∧ Aside0 (Acc base w' a G cG s m ms gs3 0 [0, 0, 0] [h0, h0, h0] (fun _ => 0)) ∧ Aside0 (w.heap.size ≤ base ∧ base ≤ w'.heap.size) ∧ Aside0 (Below w.heap.size w w') := by
  refine (new_calls _ (some ⟨w.heap.size, 0, none⟩) 3 gs3 (lit33 w) (by decide)).mono ?_
  rintro e w' ⟨a, G, cG, s, m, ms, rfl, hA, hcG, hb⟩
  refine ⟨_, a, G, cG, s, m, ms, rfl, ⟨hA⟩, ⟨?_, ?_⟩, ⟨?_⟩⟩
  · simp [World.size_alloc]
  · exact hb.size
  · exact below_step (below_alloc (Below.refl _ _) _) hb
theorem addK (w : World) (base : Nat) (W : World) (a : Nat) (G : Option Addr) (cG s m : Nat) (ms : List (Option Nat)) (cnt s1 : Int) (f : V → Int) (N : Nat) (h : Aside0 (Acc base W a G cG s m ms gs3 cnt [0, s1, 0] [h0, h0, f] (fun _ => N))) (hbase : Aside0 (w.heap.size ≤ base ∧ base ≤ W.heap.size)) (hb : Aside0 (Below w.heap.size w W)) (hN : N ≤ 1000) (x : Int) (hx : (Lit.int .i64 x).wf = true) (d c' s1' : Int) (f' : V → Int)
    (e1 : wrap64 (cnt + d) = c') (e2 : wrap64 (s1 + wrap64 (d * x)) = s1') (e3 : set f (mkV x hx) (wrap64 (f (mkV x hx) + d)) = f') :
    Calls Try.prog 10 #[.pointer (some ⟨a, 0, none⟩), .slice (some ⟨W.heap.size, 0, none⟩) 1 1, .int .i64 d] (W.alloc (.cells #[.int .i64 0, .int .i64 x, .string ⟨#[]⟩] 43)) fun e w' => e = .returned (.tuple #[]) ∧ Aside0 (Acc base w' a G cG s m ms gs3 c' [0, s1', 0] [h0, h0, f'] (fun _ => N + 1)) ∧ Aside0 (w.heap.size ≤ base ∧ base ≤ w'.heap.size) ∧ Aside0 (Below w.heap.size w w') := by
  refine (add3 base W a G cG s m ms cnt s1 f N h.out hbase.out.2 hN x hx d c' s1' _ e1 e2 rfl).mono ?_
  rintro e w' ⟨he, hA, hb'⟩
  rw [e3] at hA
  have hb2 : Below w.heap.size w w' := hb.out.trans (hb'.mono hbase.out.1)
  exact ⟨he, ⟨hA⟩, ⟨hbase.out.1, Nat.le_trans hbase.out.2 hb'.size⟩, ⟨hb2⟩⟩
theorem set1 : set h0 (mkV 5 wf5) (wrap64 (h0 (mkV 5 wf5) + 2)) = h1 := by
  rw [show h0 (mkV 5 wf5) = 0 from rfl, show wrap64 (0 + 2) = 2 by kernel_rfl]; rfl
theorem set2 : set h1 (mkV 9 wf9) (wrap64 (h1 (mkV 9 wf9) + 1)) = h2 := by
  rw [show h1 (mkV 9 wf9) = 0 from by rw [h1_at]; exact if_neg (Ne.symm v59), show wrap64 (0 + 1) = 1 by kernel_rfl]; rfl
theorem set3 : set h2 (mkV 9 wf9) (wrap64 (h2 (mkV 9 wf9) + (-1))) = h3 := by
  rw [show h2 (mkV 9 wf9) = 1 from by rw [h2_at]; exact if_pos rfl, show wrap64 (1 + (-1)) = 0 by kernel_rfl]; rfl
theorem set4 : set h3 (mkV 5 wf5) (wrap64 (h3 (mkV 5 wf5) + (-2))) = h4 := by
  rw [show h3 (mkV 5 wf5) = 2 from by rw [h3_at]; exact if_pos rfl, show wrap64 (2 + (-2)) = 0 by kernel_rfl]; rfl
theorem resK (w : World) (base : Nat) (W : World) (a : Nat) (G : Option Addr) (cG s m : Nat) (ms : List (Option Nat)) (cnt s1 : Int) (f : V → Int) (nb : Nat → Nat) (h : Aside0 (Acc base W a G cG s m ms gs3 cnt [0, s1, 0] [h0, h0, f] nb)) (hbase : Aside0 (w.heap.size ≤ base ∧ base ≤ W.heap.size)) (hb : Aside0 (Below w.heap.size w W)) (hnb : ∀ i, nb i ≤ 1000000)
    (hc : (Lit.int .i64 cnt).wf = true) (hs : ∀ x ∈ [0, s1, 0], (Lit.int .i64 x).wf = true) (hpos : ∀ v, 0 ≤ f v) (r : V) (hr : ∀ q, Best 3 f q → q = r) :
    Calls Try.prog 11 #[.pointer (some ⟨a, 0, none⟩)] W fun e w' => ∃ g cap, e = .returned (.slice (some ⟨g, 0, none⟩) 3 cap) ∧ Aside0 (Kd.C k43 w' (some ⟨g, 0, none⟩) 3 [⟨0, cnt, ⟨#[]⟩⟩, ⟨0, s1, ⟨#[]⟩⟩, toS r]) ∧ Aside0 (3 ≤ cap) ∧ Aside0 (Acc base w' a G cG s m ms gs3 cnt [0, s1, 0] [h0, h0, f] nb) ∧ Aside0 (w.heap.size ≤ base ∧ base ≤ w'.heap.size) ∧ Aside0 (Below w.heap.size w w') := by
  have hp : ∀ g ∈ [h0, h0, f], ∀ v, 0 ≤ g v := by
    intro g hg v
    simp only [List.mem_cons, List.not_mem_nil, or_false] at hg
    rcases hg with rfl | rfl | rfl
    · exact Int.le_refl 0
    · exact Int.le_refl 0
    · exact hpos v
  refine (result_lit base W a G cG s m ms cnt 0 s1 0 h0 h0 f nb h.out hnb hc hs hp r hr).mono ?_
  rintro e w' ⟨g, cap, rfl, hC, hcap, hb'⟩
  exact ⟨g, cap, rfl, ⟨hC⟩, ⟨hcap⟩, ⟨h.out.below hb'⟩, ⟨hbase.out.1, Nat.le_trans hbase.out.2 hb'.size⟩, ⟨below_step hb.out hb'⟩⟩
theorem sameK (w : World) (base : Nat) (W : World) (a : Nat) (G : Option Addr) (cG s m : Nat) (ms : List (Option Nat)) (cnt s1 : Int) (f : V → Int) (nb : Nat → Nat) (h : Aside0 (Acc base W a G cG s m ms gs3 cnt [0, s1, 0] [h0, h0, f] nb)) (hbase : Aside0 (w.heap.size ≤ base ∧ base ≤ W.heap.size)) (hb : Aside0 (Below w.heap.size w W))
    (x y z : Int) (hq : errataref03_Same.f 9 [⟨0, x, ⟨#[]⟩⟩, ⟨0, y, ⟨#[]⟩⟩, ⟨0, z, ⟨#[]⟩⟩] [⟨0, x, ⟨#[]⟩⟩, ⟨0, y, ⟨#[]⟩⟩, ⟨0, z, ⟨#[]⟩⟩] = some true) (g cap : Nat) (hC : Aside0 (Kd.C k43 W (some ⟨g, 0, none⟩) 3 [⟨0, x, ⟨#[]⟩⟩, ⟨0, y, ⟨#[]⟩⟩, ⟨0, z, ⟨#[]⟩⟩])) (hcap : Aside0 (3 ≤ cap)) :
    Calls Try.prog 13 #[.slice (some ⟨g, 0, none⟩) 3 cap, .slice (some ⟨W.heap.size, 0, none⟩) 3 3] (W.alloc (.cells #[.int .i64 0, .int .i64 x, .string ⟨#[]⟩, .int .i64 0, .int .i64 y, .string ⟨#[]⟩, .int .i64 0, .int .i64 z, .string ⟨#[]⟩] 43)) fun e w' => e = .returned (.bool true) ∧ Aside0 (Acc base w' a G cG s m ms gs3 cnt [0, s1, 0] [h0, h0, f] nb) ∧ Aside0 (w.heap.size ≤ base ∧ base ≤ w'.heap.size) ∧ Aside0 (Below w.heap.size w w') := by
  have b1 := below_alloc (Below.refl W.heap.size W) (.cells #[.int .i64 0, .int .i64 x, .string ⟨#[]⟩, .int .i64 0, .int .i64 y, .string ⟨#[]⟩, .int .i64 0, .int .i64 z, .string ⟨#[]⟩] 43)
  refine (same3 _ _ _ true hq _ g cap W.heap.size 3 (Kd.C_below hC.out b1) hcap.out (lit3 W x y z) (Nat.le_refl 3)).mono ?_
  rintro e w' ⟨rfl, hb'⟩
  have b2 := below_step b1 hb'
  exact ⟨rfl, ⟨h.out.below b2⟩, ⟨hbase.out.1, Nat.le_trans hbase.out.2 b2.size⟩, ⟨below_step hb.out b2⟩⟩
theorem rowsK (base : Nat) (W : World) (a : Nat) (G : Option Addr) (cG s m : Nat) (ms : List (Option Nat)) (cnt s1 : Int) (f : V → Int) (nb : Nat → Nat) (h : Aside0 (Acc base W a G cG s m ms gs3 cnt [0, s1, 0] [h0, h0, f] nb)) (hnb : ∀ i, nb i ≤ 1000000) (L : List V) (hd : L.Nodup) (hL : ∀ v, v ∈ L ↔ f v ≠ 0) (n : Int) (hn : (L.length : Int) = n) :
    Calls Try.prog 14 #[.pointer (some ⟨a, 0, none⟩)] W fun e w' => e = .returned (.int .i64 n) ∧ w' = W := by
  have := rows_calls base W a G cG s m ms gs3 cnt _ _ nb [[], [], L] h.out (by decide) hnb (lists3 h.out hd hL)
  have e : total [[], [], L] = L.length := by simp [total]
  rw [e, hn] at this
  exact this
theorem emptyK (w : World) (base : Nat) (W : World) (a : Nat) (G : Option Addr) (cG s m : Nat) (ms : List (Option Nat)) (cnt s1 : Int) (f : V → Int) (nb : Nat → Nat) (h : Aside0 (Acc base W a G cG s m ms gs3 cnt [0, s1, 0] [h0, h0, f] nb)) (hbase : Aside0 (w.heap.size ≤ base ∧ base ≤ W.heap.size)) (hb : Aside0 (Below w.heap.size w W)) (hnb : ∀ i, nb i ≤ 1000000) (L : List V) (hd : L.Nodup) (hL : ∀ v, v ∈ L ↔ f v ≠ 0) (r : Bool) (hr : r = (cnt == 0 && ((L.length : Int) == 0 && !([0, s1, 0].any fun x => x != 0)))) :
    Calls Try.prog 15 #[.pointer (some ⟨a, 0, none⟩)] W fun e w' => e = .returned (.bool r) ∧ Aside0 (Acc base w' a G cG s m ms gs3 cnt [0, s1, 0] [h0, h0, f] nb) ∧ Aside0 (w.heap.size ≤ base ∧ base ≤ w'.heap.size) ∧ Aside0 (Below w.heap.size w w') := by
  have e : total [[], [], L] = L.length := by simp [total]
  refine (empty_calls base W a G cG s m ms gs3 cnt _ _ nb [[], [], L] h.out (by decide) hnb (lists3 h.out hd hL) r (by rw [e]; exact hr)).mono ?_
  rintro e w' ⟨rfl, hb'⟩
  exact ⟨rfl, ⟨h.out.below hb'⟩, ⟨hbase.out.1, Nat.le_trans hbase.out.2 hb'.size⟩, ⟨below_step hb.out hb'⟩⟩
theorem L5_nodup : [v5].Nodup := by simp
theorem L5_mem (v : V) : v ∈ [v5] ↔ h3 v ≠ 0 := by
  rw [h3_at, List.mem_singleton]
  by_cases e : v = v5
  · rw [if_pos e]; simp [e]
  · rw [if_neg e]; simp [e]
theorem L0_mem (v : V) : v ∈ ([] : List V) ↔ h4 v ≠ 0 := by rw [h4_at]; simp
theorem h4_pos (v : V) : 0 ≤ h4 v := by rw [h4_at]; exact Int.le_refl 0
theorem wfs {x : Int} (h : (Lit.int .i64 x).wf = true) : ∀ y ∈ [0, x, 0], (Lit.int .i64 y).wf = true := by
  intro y hy
  simp only [List.mem_cons, List.not_mem_nil, or_false] at hy
  rcases hy with rfl | rfl | rfl
  · decide
  · exact h
  · decide
theorem emp1 : false = ((2 : Int) == 0 && (([v5].length : Int) == 0 && !([0, 10, 0].any fun x => x != (0 : Int)))) := by simp
theorem emp2 : true = ((0 : Int) == 0 && ((([] : List V).length : Int) == 0 && !([0, 0, 0].any fun x => x != (0 : Int)))) := by simp
set_option maxHeartbeats 8000000 in
set_option maxRecDepth 100000 in
theorem small_calls (w : World) : Calls Try.prog 4 #[] w fun e w' => e = .returned (.bool true) ∧ Below w.heap.size w w' := by
  have hu43 := Try.underlying43
  have hu33 := Try.underlying33
  go_enter Try.func4, Try.ntmps4
  go_upto_region 2 with (go_at_call 8; refine (newK w).mono ?_; rintro e w1 ⟨base, a, G, cG, s, m, ms, rfl, HA, HBS, HB⟩)
  go_upto_region 4 with (fail)
  go_upto_region 5 with (go_at_call 10; refine (addK w base w1 a G cG s m ms 0 0 h0 0 HA HBS HB (by decide) 5 wf5 2 2 10 h1 (by kernel_rfl) (by kernel_rfl) set1).mono ?_; clear HA HBS HB; rintro e w2 ⟨rfl, HA, HBS, HB⟩)
  go_upto_region 6 with (go_at_call 10; refine (addK w base w2 a G cG s m ms 2 10 h1 1 HA HBS HB (by decide) 9 wf9 1 3 19 h2 (by kernel_rfl) (by kernel_rfl) set2).mono ?_; clear HA HBS HB; rintro e w3 ⟨rfl, HA, HBS, HB⟩)

  go_upto_region 7 with (first
    | (go_at_call 11; refine (resK w base w3 a G cG s m ms 3 19 h2 _ HA HBS HB (fun _ => by decide) (by decide) (wfs (by decide)) h2_pos v9 best_h2).mono ?_; clear HA HBS HB; rintro e w4 ⟨g1, c1, rfl, HC, HCAP, HA, HBS, HB⟩)
    | (go_at_call 13; refine (sameK w base w4 a G cG s m ms 3 19 h2 _ HA HBS HB 3 19 9 sameA g1 c1 HC HCAP).mono ?_; clear HA HBS HB HC HCAP; rintro e w5 ⟨rfl, HA, HBS, HB⟩))
  go_upto_region 8 with (go_at_call 10; refine (addK w base w5 a G cG s m ms 3 19 h2 2 HA HBS HB (by decide) 9 wf9 (-1) 2 10 h3 (by kernel_rfl) (by kernel_rfl) set3).mono ?_; clear HA HBS HB; rintro e w6 ⟨rfl, HA, HBS, HB⟩)
  go_upto_region 9 with (first
    | (go_at_call 11; refine (resK w base w6 a G cG s m ms 2 10 h3 _ HA HBS HB (fun _ => by decide) (by decide) (wfs (by decide)) h3_pos v5 best_h3).mono ?_; clear HA HBS HB; rintro e w7 ⟨g2, c2, rfl, HC, HCAP, HA, HBS, HB⟩)
    | (go_at_call 13; refine (sameK w base w7 a G cG s m ms 2 10 h3 _ HA HBS HB 2 10 5 sameB g2 c2 HC HCAP).mono ?_; clear HA HBS HB HC HCAP; rintro e w8 ⟨rfl, HA, HBS, HB⟩)
    | (go_at_call 14; refine (rowsK base w8 a G cG s m ms 2 10 h3 _ HA (fun _ => by decide) [v5] L5_nodup L5_mem 1 rfl).mono ?_; rintro e w' ⟨rfl, ew⟩; subst w')
    | (go_at_call 15; refine (emptyK w base w8 a G cG s m ms 2 10 h3 _ HA HBS HB (fun _ => by decide) [v5] L5_nodup L5_mem false emp1).mono ?_; clear HA HBS HB; rintro e w9 ⟨rfl, HA, HBS, HB⟩))
  go_upto_region 10 with (go_at_call 10; refine (addK w base w9 a G cG s m ms 2 10 h3 3 HA HBS HB (by decide) 5 wf5 (-2) 0 0 h4 (by kernel_rfl) (by kernel_rfl) set4).mono ?_; clear HA HBS HB; rintro e w10 ⟨rfl, HA, HBS, HB⟩)
  go_wp2_with (first
    | (go_at_call 11; refine (resK w base w10 a G cG s m ms 0 0 h4 _ HA HBS HB (fun _ => by decide) (by decide) (wfs (by decide)) h4_pos default best_h4).mono ?_; clear HA HBS HB; rintro e w11 ⟨g3, c3, rfl, HC, HCAP, HA, HBS, HB⟩)
    | (go_at_call 13; refine (sameK w base w11 a G cG s m ms 0 0 h4 _ HA HBS HB 0 0 0 sameC g3 c3 HC HCAP).mono ?_; clear HA HBS HB HC HCAP; rintro e w12 ⟨rfl, HA, HBS, HB⟩)
    | (go_at_call 15; go_loud (refine (emptyK w base w12 a G cG s m ms 0 0 h4 _ HA HBS HB (fun _ => by decide) [] List.nodup_nil L0_mem true emp2).mono ?_); clear HA HBS HB; rintro e w13 ⟨rfl, HA, HBS, HB⟩))
  go_ret
  exact ⟨rfl, HB.out⟩
def rV (x : S43) : Bool := (value_Right.f x.f0 x.f1 x.f2).getD false
theorem rV_some (x : S43) : value_Right.f x.f0 x.f1 x.f2 = some (rV x) := by
  unfold rV value_Right.f value_Int.f value_Text.f value_Bool.f
  simp only [Option.bind_some, Bool.false_eq_true, if_false, if_true]
  repeat' split
  all_goals rfl
theorem rV_int (n : Int) : rV ⟨0, n, ⟨#[]⟩⟩ = true := by
  unfold rV value_Right.f value_Int.f
  rw [if_pos rfl]
  simp
theorem right_calls (x : S43) (w : World) : Calls Try.prog 12 #[.agg #[.int .i64 x.f0, .int .i64 x.f1, .string x.f2]] w fun e w' => e = .returned (.bool (rV x)) ∧ Below w.heap.size w w' := value_Right.calls _ _ _ _ w (rV_some x)
set_option maxHeartbeats 4000000 in
set_option maxRecDepth 100000 in
theorem all1_calls (x : S43) (w : World) : Calls Try.prog 35 #[.agg #[.int .i64 x.f0, .int .i64 x.f1, .string x.f2]] w fun e w' => e = .returned (.bool (!rV x)) ∧ Below w.heap.size w w' := by
  go_enter Try.func35, Try.ntmps35
  go_wp2_with (go_at_call 12; refine (right_calls x _).mono ?_; rintro e w' ⟨rfl, hb⟩)
  go_ret
  exact ⟨rfl, ((Below.refl _ w).alloc (Nat.le_refl _) _).trans (hb.mono (by simp))⟩
set_option maxHeartbeats 4000000 in
set_option maxRecDepth 100000 in
theorem idx_calls (w : World) (A : Option Addr) (cap : Nat) (xs : List S43) (hC : Kd.C k43 w A xs.length xs) (hc : xs.length ≤ cap) (hn : xs.length ≤ 1000000) :
    Calls Try.prog 36 #[.slice A xs.length cap, .func (.func 35) #[] #[]] w fun e w' => ∃ i : Int, e = .returned (.int .i64 i) ∧ (decide (0 ≤ i) = !xs.all rV) ∧ Below w.heap.size w w' := by
  have hu43 := Try.underlying43
  have HC := Aside0.mk hC
  have HN := Aside0.mk hn
  have HCP := Aside0.mk hc
  clear hC hn hc
  go_enter Try.func36, Try.ntmps36
  go_wp2
  go_loopw [8] (fun v8 wr => ∃ k : Nat, k ≤ xs.length ∧ v8 = .int .i64 (k : Int) ∧ Aside0 ((xs.take k).all rV = true) ∧ Aside0 (Below w.heap.size w wr)) (fun v8 _ => xs.length - (intOf v8).toNat)
  case atStart => exact ⟨0, Nat.zero_le _, rfl, ⟨by simp⟩, ⟨Below.refl _ _⟩⟩
  case round =>
    obtain ⟨k, hk, rfl, HAL, HB⟩ := hrel
    have hn := HN.out
    by_cases hlt : k < xs.length
    · have p0 : (0 ≤ (k : Int)) = True := eq_true (Int.natCast_nonneg _)
      have p1 : ((k : Int) < (xs.length : Int)) = True := eq_true (by omega)
      obtain ⟨ad, eA, x0, x1, x2⟩ := at_T43 (Kd.C_below HC.out HB.out) (k : Int) (by omega) (by omega)
      rw [Int.toNat_natCast] at x0 x1 x2
      obtain ⟨x, hx⟩ : ∃ x, rd_T43 xs (k : Int) = x := ⟨_, rfl⟩
      rw [hx] at x0 x1 x2
      have hxk : xs[k]? = some x := by
        rw [← hx]; unfold rd_T43
        rw [Int.toNat_natCast, List.getD_eq_getElem?_getD, List.getElem?_eq_getElem hlt]; rfl
      have HX := Aside0.mk hxk
      have HLT := Aside0.mk hlt
      have ht : (xs.take (k + 1)).all rV = rV x := by
        rw [List.take_add_one, hxk, List.all_append, HAL.out]; simp
      have HT := Aside0.mk ht
      subst eA
      clear hxk hx ht
      cases hr : rV x with
      | true =>
        have hf := fun W => all1_calls x W
        rw [hr] at hf
        have HF := Aside0.mk hf
        have HR := Aside0.mk hr
        clear hf hr
        go_wp2_with (go_at_call 35; refine (HF.out _).mono ?_; rintro e w' ⟨rfl, hb⟩)
        go_roundw
        case rel => exact ⟨k + 1, by omega, by go_num, ⟨HT.out.trans HR.out⟩, ⟨below_step HB.out hb⟩⟩
        case measure => simp [intOf]; omega
      | false =>
        have hf := fun W => all1_calls x W
        rw [hr] at hf
        have HF := Aside0.mk hf
        have HR := Aside0.mk hr
        clear hf hr
        go_wp2_with (go_at_call 35; refine (HF.out _).mono ?_; rintro e w' ⟨rfl, hb⟩)
        go_ret
        refine ⟨(k : Int), rfl, ?_, below_step HB.out hb⟩
        have e1 : xs.all rV = false := by
          rw [List.all_eq_false]
          exact ⟨x, List.mem_of_getElem? HX.out, by rw [HR.out]; simp⟩
        rw [e1]; simp
    · have hkn : k = xs.length := by omega
      have p1 : ((k : Int) < (xs.length : Int)) = False := eq_false (by omega)
      have e1 : xs.take k = xs := List.take_of_length_le (by omega)
      rw [e1] at HAL
      clear hkn e1 hlt hk
      go_wp2
      go_ret
      refine ⟨-1, rfl, ?_, HB.out⟩
      rw [HAL.out]; decide
set_option maxHeartbeats 4000000 in
set_option maxRecDepth 100000 in
theorem con_calls (w : World) (A : Option Addr) (cap : Nat) (xs : List S43) (hC : Kd.C k43 w A xs.length xs) (hc : xs.length ≤ cap) (hn : xs.length ≤ 1000000) :
    Calls Try.prog 34 #[.slice A xs.length cap, .func (.func 35) #[] #[]] w fun e w' => e = .returned (.bool (!xs.all rV)) ∧ Below w.heap.size w w' := by
  have hq := Aside0.mk (idx_calls w A cap xs hC hc hn)
  clear hC
  go_enter Try.func34, Try.ntmps34
  go_wp2_with (go_at_call 36; refine hq.out.mono ?_; rintro e w' ⟨i, rfl, hi, hb⟩)
  go_ret
  exact ⟨by rw [← hi]; rfl, hb⟩
set_option maxHeartbeats 4000000 in
set_option maxRecDepth 100000 in
theorem allV_calls (w : World) (A : Option Addr) (cap : Nat) (xs : List S43) (hC : Kd.C k43 w A xs.length xs) (hc : xs.length ≤ cap) (hn : xs.length ≤ 1000000) :
    Calls Try.prog 28 #[.slice A xs.length cap] w fun e w' => e = .returned (.bool (xs.all rV)) ∧ Below w.heap.size w w' := by
  have hq := Aside0.mk (con_calls w A cap xs hC hc hn)
  clear hC
  obtain ⟨b, hb⟩ : ∃ b, b = xs.all rV := ⟨_, rfl⟩
  rw [← hb] at hq ⊢
  clear hb
  go_enter Try.func28, Try.ntmps28
  go_wp2_with (go_at_call 34; refine hq.out.mono ?_; rintro e w' ⟨rfl, hb⟩)
  go_ret
  exact ⟨by simp, hb⟩
set_option maxHeartbeats 4000000 in
set_option maxRecDepth 100000 in
theorem rightRow_calls (w : World) (A : Option Addr) (cap : Nat) (xs : List S43) (hC : Kd.C k43 w A xs.length xs) (hc : xs.length ≤ cap) :
    Calls Try.prog 18 #[.slice A xs.length cap] w fun e w' => e = .returned (.bool (decide (xs.length ≤ 12) && xs.all rV)) ∧ Below w.heap.size w w' := by
  by_cases h12 : xs.length ≤ 12
  · have hq := Aside0.mk (allV_calls w A cap xs hC hc (by omega))
    have p : ((xs.length : Int) ≤ 12) = True := eq_true (by omega)
    rw [show decide (xs.length ≤ 12) = true from decide_eq_true h12, Bool.true_and]
    obtain ⟨b, hb⟩ : ∃ b, b = xs.all rV := ⟨_, rfl⟩
    rw [← hb] at hq ⊢
    clear hb hC
    go_enter Try.func18, Try.ntmps18
    go_wp2_with (go_at_call 28; refine hq.out.mono ?_; rintro e w' ⟨rfl, hb⟩)
    go_ret
    exact ⟨rfl, hb⟩
  · have p : ((xs.length : Int) ≤ 12) = False := eq_false (by omega)
    rw [show decide (xs.length ≤ 12) = false from decide_eq_false h12, Bool.false_and]
    clear hC
    go_enter Try.func18, Try.ntmps18
    go_wp2
    go_ret
    exact ⟨rfl, Below.refl _ _⟩
def Fit (row : List S43) (cols : List S41) : Prop := row.length = cols.length ∧ row.all rV = true ∧ ∀ (i : Nat) (x : S43) (c : S41), row[i]? = some x → cols[i]? = some c → x.f0 = c.f1
attribute [local go_sem ↓ high] Go.Proofs.Ytmpbpgbhohefeaa.My.ld41_eq Go.Proofs.Ytmpbpgbhohefeaa.My.st41_eq
attribute [local go_sem high] Go.Proofs.Ytmpbpgbhohefeaa.My.ld41_run Go.Proofs.Ytmpbpgbhohefeaa.My.st41_run
attribute [local go_sem] one_int one_bool one_string one_slice
set_option maxHeartbeats 4000000 in
set_option maxRecDepth 100000 in
theorem fits_calls (w : World) (A : Option Addr) (cap : Nat) (row : List S43) (A1 : Option Addr) (cap1 : Nat) (cols : List S41) (hC : Kd.C k43 w A row.length row) (hc : row.length ≤ cap) (hC1 : Kd.C k41 w A1 cols.length cols) (hc1 : cols.length ≤ cap1) :
    Calls Try.prog 9 #[.slice A row.length cap, .slice A1 cols.length cap1] w fun e w' => ∃ r, e = .returned (.bool r) ∧ (r = true → Fit row cols) ∧ Below w.heap.size w w' := by
  have hu43 := Try.underlying43
  have hu41 := Try.underlying41
  have HC := Aside0.mk hC
  have HC1 := Aside0.mk hC1
  have HRR := Aside0.mk (rightRow_calls w A cap row hC hc)
  clear hC hC1
  by_cases hl : row.length = cols.length
  · have p : ((row.length : Int) != (cols.length : Int)) = false := bne_eq_false_iff_eq.mpr (by omega)
    have HL := Aside0.mk hl
    by_cases hr : (decide (row.length ≤ 12) && row.all rV) = true
    · have h12 : row.length ≤ 12 := by simp at hr; exact hr.1
      have hrv : row.all rV = true := by simp at hr; simpa using hr.2
      rw [hr] at HRR
      have HRV := Aside0.mk hrv
      have H12 := Aside0.mk h12
      clear hr hrv h12 hl
      go_enter Try.func9, Try.ntmps9
      go_upto_region 3 with (go_at_call 18; refine HRR.out.mono ?_; rintro e w1 ⟨rfl, hb1⟩)
      have HB1 := Aside0.mk hb1
      clear hb1 HRR
      go_wp2
      go_loopw [19] (fun v19 wr => ∃ k : Nat, k ≤ cols.length ∧ v19 = .int .i64 (k : Int) ∧ Aside0 (∀ (i : Nat) (x : S43) (c : S41), i < k → row[i]? = some x → cols[i]? = some c → x.f0 = c.f1) ∧ Aside0 (Below w.heap.size w wr)) (fun v19 _ => cols.length - (intOf v19).toNat)
      case atStart => exact ⟨0, Nat.zero_le _, rfl, ⟨fun i x c h => by omega⟩, HB1⟩
      case round =>
        obtain ⟨k, hk, rfl, HAL, HB⟩ := hrel
        have h12 := H12.out
        have hl := HL.out
        by_cases hlt : k < cols.length
        · have p0 : (0 ≤ (k : Int)) = True := eq_true (Int.natCast_nonneg _)
          have p1 : ((k : Int) < (cols.length : Int)) = True := eq_true (by omega)
          have p2 : ((k : Int) < (row.length : Int)) = True := eq_true (by omega)
          obtain ⟨ad, eA, x0, x1, x2⟩ := at_T43 (Kd.C_below HC.out HB.out) (k : Int) (by omega) (by omega)
          obtain ⟨ad1, eA1, y0, y1, y2⟩ := at_T41 (Kd.C_below HC1.out HB.out) (k : Int) (by omega) (by omega)
          rw [Int.toNat_natCast] at x0 x1 x2 y0 y1 y2
          obtain ⟨x, hx⟩ : ∃ x, rd_T43 row (k : Int) = x := ⟨_, rfl⟩
          obtain ⟨c, hc⟩ : ∃ c, rd_T41 cols (k : Int) = c := ⟨_, rfl⟩
          rw [hx] at x0 x1 x2
          rw [hc] at y0 y1 y2
          have hxk : row[k]? = some x := by
            rw [← hx]; unfold rd_T43
            rw [Int.toNat_natCast, List.getD_eq_getElem?_getD, List.getElem?_eq_getElem (by omega)]; rfl
          have hck : cols[k]? = some c := by
            rw [← hc]; unfold rd_T41
            rw [Int.toNat_natCast, List.getD_eq_getElem?_getD, List.getElem?_eq_getElem hlt]; rfl
          have HX := Aside0.mk hxk
          have HC := Aside0.mk hck
          have HLT := Aside0.mk hlt
          have HWL := Aside0.mk (World.block_lt_of_cell? wr _ x0)
          subst eA eA1
          have hcn : cols.length ≤ 12 := by omega
          clear hxk hx hck hc hl h12
          go_upto_region 6 with (fail)
          refine wp_gen (fun W => W.heap[wr.heap.size]? = some (.cells #[.string c.f0, .int .i64 c.f1, .string c.f2] 41 (0, 0)) ∧ Below wr.heap.size wr W) ⟨World.alloc_heap_new wr _, below_alloc (Below.refl _ _) _⟩ (fun W hW => ?_)
          obtain ⟨e7, hbW⟩ := hW
          have HBT := Aside0.mk (HB.out.trans (hbW.mono HB.out.size))
          obtain ⟨g7, hg7⟩ : ∃ g7, wr.heap.size = g7 := ⟨_, rfl⟩
          have z0 : W.cell? (ad.add (k * 3)) = some (.int .i64 x.f0) := (hbW.cell HWL.out).trans x0
          rw [hg7] at e7 ⊢
          have z1 : W.cell? ⟨g7, 1, none⟩ = some (.int .i64 c.f1) := (blk_cell e7 1).trans rfl
          clear hg7 hbW x0 x1 x2 y0 y1 y2 e7
          by_cases hq : x.f0 = c.f1
          · have q : (x.f0 != c.f1) = false := bne_eq_false_iff_eq.mpr hq
            have HQ := Aside0.mk hq
            clear hq hu41 hu43
            go_quiet (fail)
            try go_wp2
            go_roundw
            case rel =>
              have hl := HL.out
              have h12 := H12.out
              have hlt := HLT.out
              refine ⟨k + 1, by omega, by go_num, ⟨fun i y d hi h1 h2 => ?_⟩, ⟨pw_below_drewN HBT.out _⟩⟩
              rcases Nat.lt_or_ge i k with h3 | h3
              · exact HAL.out i y d h3 h1 h2
              · obtain rfl : i = k := by omega
                rw [HX.out] at h1
                rw [HC.out] at h2
                cases h1
                cases h2
                exact HQ.out
            case measure => have hlt := HLT.out; have hl := HL.out; have h12 := H12.out; simp [intOf]; omega
          · have q : (x.f0 != c.f1) = true := bne_iff_ne.mpr hq
            clear hq hu41 hu43
            go_quiet (fail)
            try go_wp2
            go_ret
            exact ⟨false, rfl, fun h => (by cases h), pw_below_drewN HBT.out _⟩
        · have hkn : k = cols.length := by omega
          have p1 : ((k : Int) < (cols.length : Int)) = False := eq_false (by omega)
          have HK := Aside0.mk hkn
          clear hkn hlt hk
          go_wp2
          go_ret
          refine ⟨true, rfl, fun _ => ⟨HL.out, HRV.out, fun i x c h1 h2 => ?_⟩, HB.out⟩
          refine HAL.out i x c ?_ h1 h2
          rw [HK.out, ← HL.out]
          rcases Nat.lt_or_ge i row.length with h3 | h3
          · exact h3
          · rw [List.getElem?_eq_none h3] at h1; cases h1
    · have hr' : (decide (row.length ≤ 12) && row.all rV) = false := by simpa using hr
      rw [hr'] at HRR
      clear hr hr' hl
      go_enter Try.func9, Try.ntmps9
      go_wp2_with (go_at_call 18; refine HRR.out.mono ?_; rintro e w1 ⟨rfl, hb1⟩)
      go_ret
      exact ⟨false, rfl, fun h => (by cases h), hb1⟩
  · have p : ((row.length : Int) != (cols.length : Int)) = true := bne_iff_ne.mpr (by omega)
    clear hl
    go_enter Try.func9, Try.ntmps9
    go_wp2
    go_ret
    exact ⟨false, rfl, fun h => (by cases h), Below.refl _ _⟩
theorem wrap_id {n : Int} (h : -9223372036854775808 ≤ n ∧ n ≤ 9223372036854775807) : wrap64 n = n := by unfold wrap64; omega
def okA (g : S33) : Bool := decide (0 ≤ g.f0) && decide (g.f0 < 4) && decide (0 ≤ g.f1)
theorem okA_iff {g : S33} : okA g = true ↔ 0 ≤ g.f0 ∧ g.f0 < 4 ∧ 0 ≤ g.f1 := by unfold okA; simp [and_assoc]
theorem rd33_at {gs pre r : List S33} {g : S33} (h : gs = pre ++ g :: r) : rd_T33 gs (pre.length : Int) = g := by
  unfold rd_T33
  rw [Int.toNat_natCast, List.getD_eq_getElem?_getD, h, List.getElem?_append_right (Nat.le_refl _), Nat.sub_self]
  rfl
theorem right_l0 (gs : List S33) (hn : gs.length ≤ 9223372036854775807) : ∀ (r pre : List S33), gs = pre ++ r → erratalaw30_right.l0 (r.length + 1) gs (pre.length : Int) = some (r.all okA && decide (gs.length ≤ 8))
  | [], pre, h => by
    have hl : gs.length = pre.length := by rw [h]; simp
    unfold erratalaw30_right.l0
    rw [if_neg (by omega)]
    simp only [List.all_nil, Bool.true_and]
    congr 1
    exact decide_eq_decide.mpr (by omega)
  | g :: r, pre, h => by
    have hl : gs.length = pre.length + (r.length + 1) := by rw [h]; simp
    have hr := rd33_at h
    have hw : wrap64 ((pre.length : Int) + 1) = (pre.length : Int) + 1 := wrap_id (by omega)
    have ih := right_l0 gs hn r (pre ++ [g]) (by rw [h]; simp)
    rw [List.length_append, List.length_singleton] at ih
    rw [List.length_cons]
    unfold erratalaw30_right.l0
    rw [if_pos (by omega), if_pos (by omega), hr, hw, List.all_cons]
    by_cases h0 : g.f0 < 0
    · rw [if_pos h0, show okA g = false by unfold okA; rw [decide_eq_false (by omega : ¬ 0 ≤ g.f0)]; rfl]; rfl
    · rw [if_neg h0]
      by_cases h1 : g.f0 ≥ 4
      · rw [if_pos h1, show okA g = false by unfold okA; rw [decide_eq_false (by omega : ¬ g.f0 < 4)]; simp]; rfl
      · rw [if_neg h1]
        by_cases h2 : g.f1 < 0
        · rw [if_pos h2, show okA g = false by unfold okA; rw [decide_eq_false (by omega : ¬ 0 ≤ g.f1)]; simp]; rfl
        · rw [if_neg h2, show okA g = true from okA_iff.2 (by omega), Bool.true_and]
          exact ih
theorem right_f (gs : List S33) (hn : gs.length ≤ 9223372036854775807) : erratalaw30_right.f (gs.length + 1) gs = some (gs.all okA && decide (gs.length ≤ 8)) := right_l0 gs hn gs [] rfl
def typeE (g : S33) (cols : List S41) : Int := if g.f0 = 0 then 0 else if (cols.length : Int) ≤ g.f1 then 3 else if g.f0 = 1 ∧ (rd_T41 cols g.f1).f1 ≠ 0 then 13 else 0
def typeT (g : S33) (cols : List S41) : Int := if g.f0 = 0 then 0 else if (cols.length : Int) ≤ g.f1 then 0 else if g.f0 = 1 ∧ (rd_T41 cols g.f1).f1 ≠ 0 then 0 else (rd_T41 cols g.f1).f1
theorem type_f (g : S33) (cols : List S41) (k : Nat) (h : okA g = true) : aggregate_Type.f (k + 2) g.f0 g.f1 g.f2 cols = some (typeT g cols, typeE g cols) := by
  obtain ⟨h0, h1, h2⟩ := okA_iff.1 h
  unfold aggregate_Type.f
  rw [if_neg (by omega), show decide (g.f0 ≥ 4) = false from decide_eq_false (by omega)]
  unfold aggregate_Type.j0 typeT typeE
  simp only [Bool.false_eq_true, if_false]
  by_cases hz : g.f0 = 0
  · simp only [if_pos hz]
  · simp only [if_neg hz, if_neg (by omega : ¬ g.f1 < 0)]
    unfold aggregate_Type.j1
    by_cases hc : (cols.length : Int) ≤ g.f1
    · rw [show decide (g.f1 ≥ (cols.length : Int)) = true from decide_eq_true hc]
      simp only [if_true, if_pos hc]
    · rw [show decide (g.f1 ≥ (cols.length : Int)) = false from decide_eq_false hc]
      simp only [Bool.false_eq_true, if_false, if_neg hc, if_pos h2, if_pos (by omega : g.f1 < (cols.length : Int))]
      by_cases h1' : g.f0 = 1
      · by_cases ht : (rd_T41 cols g.f1).f1 = 0
        · simp [h1', ht]
        · simp [h1', ht]
      · simp [h1']
def colOf (cols : List S41) (g : S33) : S41 := ⟨g.f2, typeT g cols, if g.f0 = 0 then ⟨#[]⟩ else (rd_T41 cols g.f1).f2⟩
def colsF (cols : List S41) : List S33 → List S41 → List S41 × Int
  | [], out => (out, 0)
  | g :: r, out => if typeE g cols = 0 then colsF cols r (out ++ [colOf cols g]) else ([], typeE g cols)
def firstE (cols : List S41) : List S33 → Int
  | [] => 0
  | g :: r => if typeE g cols = 0 then firstE cols r else typeE g cols
theorem colsF_err (cols : List S41) : ∀ (gs : List S33) (out : List S41), (colsF cols gs out).2 = firstE cols gs
  | [], _ => rfl
  | g :: r, out => by
    unfold colsF firstE
    split
    · exact colsF_err cols r _
    · rfl
theorem colsF_ok (cols : List S41) : ∀ (gs : List S33) (out : List S41), firstE cols gs = 0 → (colsF cols gs out).1 = out ++ gs.map (colOf cols)
  | [], out, _ => by simp [colsF]
  | g :: r, out, h => by
    unfold firstE at h
    unfold colsF
    split
    · rename_i he
      rw [if_pos he] at h
      rw [colsF_ok cols r _ h]; simp
    · rename_i he
      rw [if_neg he] at h
      exact absurd h he
theorem colsF_no (cols : List S41) : ∀ (gs : List S33) (out : List S41), firstE cols gs ≠ 0 → (colsF cols gs out).1 = []
  | [], out, h => absurd rfl h
  | g :: r, out, h => by
    unfold firstE at h
    unfold colsF
    split
    · rename_i he
      rw [if_pos he] at h
      exact colsF_no cols r _ h
    · rfl
theorem all_ok {cols : List S41} : ∀ {gs : List S33}, firstE cols gs = 0 → ∀ g ∈ gs, typeE g cols = 0
  | [], _, g, h => by cases h
  | x :: r, h, g, hg => by
    unfold firstE at h
    split at h
    · rename_i he
      rcases List.mem_cons.1 hg with e | e
      · rw [e]; exact he
      · exact all_ok h g e
    · rename_i he
      exact absurd h he
theorem cols_l0 (gs : List S33) (cols : List S41) (hok : gs.all okA = true) (hn : gs.length ≤ 1000) : ∀ (r pre : List S33) (out : List S41) (k : Nat), gs = pre ++ r → out.length ≤ pre.length → aggregate_Cols.l0 (k + r.length + 3) cols out gs (gs.length : Int) (pre.length : Int) = some (colsF cols r out)
  | [], pre, out, k, h, ho => by
    have hl : gs.length = pre.length := by rw [h]; simp
    unfold aggregate_Cols.l0
    rw [if_neg (by omega)]
    rfl
  | g :: r, pre, out, k, h, ho => by
    have hl : gs.length = pre.length + (r.length + 1) := by rw [h]; simp
    have hr := rd33_at h
    have hg : okA g = true := List.all_eq_true.1 hok g (by rw [h]; simp)
    obtain ⟨h0, h1, h2⟩ := okA_iff.1 hg
    have hw : wrap64 ((pre.length : Int) + 1) = (pre.length : Int) + 1 := wrap_id (by omega)
    have ih := cols_l0 gs cols hok hn r (pre ++ [g]) (out ++ [colOf cols g]) k (by rw [h]; simp) (by simp; omega)
    rw [List.length_append, List.length_singleton] at ih
    rw [List.length_cons, show k + (r.length + 1) + 3 = (k + r.length + 3) + 1 by omega]
    unfold aggregate_Cols.l0
    rw [if_pos (by omega), if_pos (by omega), if_pos (by omega), hr, hw, show k + r.length + 3 = (k + r.length + 1) + 2 by omega, type_f g cols _ hg]
    rw [Option.bind_some]
    unfold colsF
    have ho' : out.length < 3518437208883 := by omega
    by_cases he : typeE g cols = 0
    · rw [if_pos he, if_pos he]
      by_cases hz : g.f0 = 0
      · rw [if_pos hz, if_pos ho']
        rw [show (⟨g.f2, typeT g cols, ⟨#[]⟩⟩ : S41) = colOf cols g by unfold colOf; rw [if_pos hz]]
        exact ih
      · rw [if_neg hz, if_pos h2]
        have hc : g.f1 < (cols.length : Int) := by
          unfold typeE at he
          rw [if_neg hz] at he
          by_cases hx : (cols.length : Int) ≤ g.f1
          · rw [if_pos hx] at he; omega
          · omega
        rw [if_pos hc, if_pos ho']
        rw [show (⟨g.f2, typeT g cols, (rd_T41 cols g.f1).f2⟩ : S41) = colOf cols g by unfold colOf; rw [if_neg hz]]
        exact ih
    · rw [if_neg he, if_neg he]
theorem cols_f (gs : List S33) (cols : List S41) (hok : gs.all okA = true) (hn : gs.length ≤ 1000) : aggregate_Cols.f (gs.length + 3) gs cols = some ((colsF cols gs []).1, firstE cols gs) := by
  have := cols_l0 gs cols hok hn gs [] [] 0 rfl (Nat.le_refl _)
  rw [Nat.zero_add] at this
  rw [← colsF_err cols gs []]
  exact this
theorem firstE_drop {gs : List S33} {cols : List S41} {k : Nat} {g : S33} (hg : gs[k]? = some g) : firstE cols (gs.drop k) = if typeE g cols = 0 then firstE cols (gs.drop (k + 1)) else typeE g cols := by
  have hk : k < gs.length := by
    rcases Nat.lt_or_ge k gs.length with h | h
    · exact h
    · rw [List.getElem?_eq_none h] at hg; cases hg
  rw [List.drop_eq_getElem_cons hk]
  rw [List.getElem?_eq_getElem hk] at hg
  rw [Option.some.inj hg]
  rfl
structure Inv (gs : List S33) (rows : List (List V)) (k : Nat) (sums : List Int) (bags : List (V → Int)) : Prop where
  sw : ∀ x ∈ sums, (Lit.int .i64 x).wf = true
  lo : ∀ f ∈ bags, ∀ v, 0 ≤ f v ∧ f v ≤ (k : Int)
  src : ∀ (i : Nat) (g : S33) (f : V → Int), gs[i]? = some g → bags[i]? = some f → ∀ v, f v ≠ 0 → ∃ r ∈ rows, v = atV r g.f1
  pos : 0 < k → ∀ (i : Nat) (g : S33) (f : V → Int), gs[i]? = some g → bags[i]? = some f → ordd g → ∃ v, f v ≠ 0
theorem Inv.init (gs : List S33) (rows : List (List V)) : Inv gs rows 0 (List.replicate gs.length 0) (List.replicate gs.length (fun _ => 0)) where
  sw := fun x hx => by rw [(List.mem_replicate.1 hx).2]; decide
  lo := fun f hf v => by rw [(List.mem_replicate.1 hf).2]; exact ⟨Int.le_refl _, Int.le_refl _⟩
  src := fun i g f _ hf v hv => by
    have := List.mem_of_getElem? hf
    rw [(List.mem_replicate.1 this).2] at hv
    exact absurd rfl hv
  pos := fun h => absurd h (Nat.lt_irrefl 0)
theorem set_at (f : V → Int) (v : V) (c : Int) (u : V) : set f v c u = if u = v then c else f u := rfl
theorem Inv.step {gs : List S33} {rows : List (List V)} {k : Nat} {sums : List Int} {bags : List (V → Int)} (h : Inv gs rows k sums bags) (hk : k ≤ 1000) (hls : sums.length = gs.length) (hlb : bags.length = gs.length) {r : List V} (hr : r ∈ rows) : Inv gs rows (k + 1) (addS gs sums r 1) (addB gs bags r 1) := by
  have hat : ∀ (i : Nat) (g : S33) (f' : V → Int), gs[i]? = some g → (addB gs bags r 1)[i]? = some f' → ∃ f, bags[i]? = some f ∧ f' = if g.f0 = 2 ∨ g.f0 = 3 then set f (atV r g.f1) (f (atV r g.f1) + 1) else f := by
    intro i g f' hg hf'
    have hi : i < bags.length := by
      rcases Nat.lt_or_ge i bags.length with h1 | h1
      · exact h1
      · rw [List.getElem?_eq_none (by rw [addB_len hlb]; exact h1)] at hf'; cases hf'
    have h0 := addB_at (r := r) (d := 1) hg (List.getElem?_eq_getElem hi)
    rw [h0] at hf'
    have hb := h.lo _ (List.getElem_mem hi) (atV r g.f1)
    rw [wrap_id (by omega)] at hf'
    exact ⟨_, List.getElem?_eq_getElem hi, (Option.some.inj hf').symm⟩
  refine ⟨?_, ?_, ?_, ?_⟩
  · intro x hx
    obtain ⟨i, hi⟩ := List.getElem?_of_mem hx
    have hi' : i < sums.length := by
      rcases Nat.lt_or_ge i sums.length with h1 | h1
      · exact h1
      · rw [List.getElem?_eq_none (by rw [addS_len hls]; exact h1)] at hi; cases hi
    have hg : i < gs.length := by omega
    rw [addS_at (List.getElem?_eq_getElem hg) (List.getElem?_eq_getElem hi')] at hi
    have := Option.some.inj hi
    rw [← this]
    split
    · exact wrap64_wf _
    · exact h.sw _ (List.getElem_mem hi')
  · intro f' hf' v
    obtain ⟨i, hi⟩ := List.getElem?_of_mem hf'
    have hi' : i < gs.length := by
      rcases Nat.lt_or_ge i gs.length with h1 | h1
      · exact h1
      · rw [List.getElem?_eq_none (by rw [addB_len hlb]; omega)] at hi; cases hi
    obtain ⟨f, hf, e⟩ := hat i _ f' (List.getElem?_eq_getElem hi') hi
    have hb := h.lo f (List.mem_of_getElem? hf)
    rw [e]
    split
    · rw [set_at]
      split
      · have := hb (atV r gs[i].f1); omega
      · have := hb v; omega
    · have := hb v; omega
  · intro i g f' hg hf' v hv
    obtain ⟨f, hf, e⟩ := hat i g f' hg hf'
    rw [e] at hv
    split at hv
    · rw [set_at] at hv
      split at hv
      · rename_i e1; exact ⟨r, hr, e1⟩
      · exact h.src i g f hg hf v hv
    · exact h.src i g f hg hf v hv
  · intro _ i g f' hg hf' ho
    obtain ⟨f, hf, e⟩ := hat i g f' hg hf'
    have ho' : g.f0 = 2 ∨ g.f0 = 3 := ho
    rw [e, if_pos ho']
    refine ⟨atV r g.f1, ?_⟩
    rw [set_at, if_pos rfl]
    have := (h.lo f (List.mem_of_getElem? hf) (atV r g.f1)).1
    omega
theorem intV_facts {x : Int} (h : (Lit.int .i64 x).wf = true) : rV (toS (intV x)) = true ∧ (intV x).k = 0 := by
  unfold intV
  rw [dif_pos h]
  exact ⟨rV_int x, rfl⟩
theorem atV_in {r : List V} {c : Int} (h0 : 0 ≤ c) (h1 : c < r.length) : r[c.toNat]? = some (atV r c) := by
  unfold atV
  rw [if_neg (by omega), if_neg (by omega), List.getD_eq_getElem?_getD, List.getElem?_eq_getElem (by omega)]
  rfl
theorem rd41_at {cols : List S41} {c : Int} (h0 : 0 ≤ c) (h1 : c < cols.length) : cols[c.toNat]? = some (rd_T41 cols c) := by
  unfold rd_T41
  rw [List.getD_eq_getElem?_getD, List.getElem?_eq_getElem (by omega)]
  rfl
theorem final_ok {gs : List S33} {rows : List (List V)} {cols : List S41} {cnt : Int} {sums : List Int} {bags : List (V → Int)} {rs : List V} (h : Inv gs rows rows.length sums bags) (hok : gs.all okA = true) (he : firstE cols gs = 0) (hfit : ∀ r ∈ rows, Fit (r.map toS) cols) (hres : ResAll gs cnt sums bags rs)
    (hls : sums.length = gs.length) (hlb : bags.length = gs.length) (hcw : (Lit.int .i64 cnt).wf = true) (hn : 0 < rows.length) : ∀ (i : Nat) (g : S33) (r : V), gs[i]? = some g → rs[i]? = some r → rV (toS r) = true ∧ r.k = typeT g cols := by
  intro i g r hg hr
  have hi : i < gs.length := by
    rcases Nat.lt_or_ge i gs.length with h1 | h1
    · exact h1
    · rw [List.getElem?_eq_none h1] at hg; cases hg
  have hgm := List.mem_of_getElem? hg
  obtain ⟨k0, k1, k2⟩ := okA_iff.1 (List.all_eq_true.1 hok g hgm)
  have hte := all_ok he g hgm
  have hsm := List.getElem?_eq_getElem (show i < sums.length by omega)
  have hbg := List.getElem?_eq_getElem (show i < bags.length by omega)
  obtain ⟨r0, r1, r2⟩ := hres i g _ _ r hg hsm hbg hr
  have hwf := h.sw _ (List.getElem_mem (show i < sums.length by omega))
  unfold typeE at hte
  unfold typeT
  by_cases z0 : g.f0 = 0
  · rw [if_pos z0, r0 z0]
    exact intV_facts hcw
  · rw [if_neg z0] at hte ⊢
    by_cases hc : (cols.length : Int) ≤ g.f1
    · rw [if_pos hc] at hte; omega
    · rw [if_neg hc] at hte ⊢
      by_cases z1 : g.f0 = 1
      · by_cases ht : (rd_T41 cols g.f1).f1 = 0
        · rw [if_neg (fun e => e.2 ht), ht, r1 z1]
          exact intV_facts hwf
        · rw [if_pos ⟨z1, ht⟩] at hte; omega
      · rw [if_neg (fun e => z1 e.1)]
        have ho : g.f0 = 2 ∨ g.f0 = 3 := by omega
        rcases r2 ho with ⟨hall, _⟩ | ⟨hne, _, _⟩
        · obtain ⟨v, hv⟩ := h.pos hn i g _ hg hbg ho
          exact absurd (hall v) hv
        · obtain ⟨row, hrow, e⟩ := h.src i g _ hg hbg r hne
          obtain ⟨hl, hrv, hk⟩ := hfit row hrow
          rw [List.length_map] at hl
          have hat := atV_in (r := row) k2 (by omega)
          have hats : (row.map toS)[g.f1.toNat]? = some (toS r) := by rw [List.getElem?_map, hat, e]; rfl
          exact ⟨List.all_eq_true.1 hrv _ (List.mem_of_getElem? hats), hk _ _ _ hats (rd41_at k2 (by omega))⟩
end Go.Proofs.Ytmpbpgbhohefeaa.Ag
end
