/- Part 2 of a proof: texts of this claim, joined by a program of this session's work; what is proved stands in the last part. No condition. -/
import Derived.Test.YteoljddobfnfiaaKD1
section
namespace Go.Proofs.Yteoljddobfnfiaa.PB
open Go.RowKit Go.Proofs.YteoljddobfnfiaaW.PrintWords Go.Proofs.YteoljddobfnfiaaW.PrintLast Go.Proofs.YteoljddobfnfiaaW.PrintMore
attribute [local go_sem] max2_int min2_int max_two min_two max_three min_three max_four min_four
attribute [local go_sem ↓ high] Go.Proofs.Yteoljddobfnfiaa.My.ld44_eq Go.Proofs.Yteoljddobfnfiaa.My.st44_eq Go.Proofs.Yteoljddobfnfiaa.My.ld27_eq Go.Proofs.Yteoljddobfnfiaa.My.st27_eq Go.Proofs.Yteoljddobfnfiaa.My.ld37_eq Go.Proofs.Yteoljddobfnfiaa.My.st37_eq Go.Proofs.Yteoljddobfnfiaa.My.ld65_eq Go.Proofs.Yteoljddobfnfiaa.My.st65_eq
attribute [local go_sem high] Go.Proofs.Yteoljddobfnfiaa.My.ld44_run Go.Proofs.Yteoljddobfnfiaa.My.st44_run Go.Proofs.Yteoljddobfnfiaa.My.ld27_run Go.Proofs.Yteoljddobfnfiaa.My.st27_run Go.Proofs.Yteoljddobfnfiaa.My.ld37_run Go.Proofs.Yteoljddobfnfiaa.My.st37_run Go.Proofs.Yteoljddobfnfiaa.My.ld65_run Go.Proofs.Yteoljddobfnfiaa.My.st65_run
open Go.Proofs.Yteoljddobfnfiaa.My
attribute [local go_sem] cell_map run_store_fnV one_int one_bool one_string one_slice one_fnV
set_option linter.unusedVariables false
set_option linter.unusedSimpArgs false



def errW : Option Int → Value
  | none => .nilIface
  | some c => .iface 0 (.int .i64 c)
theorem errW_none : errW none = .nilIface := rfl
theorem errW_some (c : Int) : errW (some c) = .iface 0 (.int .i64 c) := rfl

theorem info3 : (Try.prog.info? 3).map (fun i => (i.zero, i.size, i.bytes)) = some (some (.int .i64 0), 1, 8) := by kernel_rfl
theorem info37 : (Try.prog.info? 37).map (fun i => (i.zero, i.size, i.bytes)) = some (some (.agg #[(.int .i64 0), (.int .i64 0), (.int .i64 0), (.int .i64 0)]), 4, 32) := by kernel_rfl
theorem info44 : (Try.prog.info? 44).map (fun i => (i.zero, i.size, i.bytes)) = some (some (.agg #[(.int .i64 0), (.slice none 0 0), (.string ⟨#[]⟩), (.int .i64 0), (.slice none 0 0), (.int .i64 0), (.int .i64 0), (.int .i64 0), (.slice none 0 0), (.slice none 0 0), (.int .i64 0), (.int .i64 0), (.int .i64 0), (.slice none 0 0), (.slice none 0 0), (.slice none 0 0)]), 16, 248) := by kernel_rfl
theorem info55 : (Try.prog.info? 55).map (fun i => (i.zero, i.size, i.bytes)) = some (some (.agg #[(.int .i64 0), (.slice none 0 0), (.int .i64 0)]), 3, 40) := by kernel_rfl
theorem info70 : (Try.prog.info? 70).map (fun i => (i.zero, i.size, i.bytes)) = some (some (.agg #[(.int .i64 0), (.int .i64 0), (.string ⟨#[]⟩)]), 3, 32) := by kernel_rfl
structure S93 where
  f0 : Int
  f1 : Int
  f2 : ByteArray
  f3 : (List S93)
def F93 (d : Kd S93) : Kd S93 := Kd.iso (Kd.pair (Kd.int .i64) (Kd.pair (Kd.int .i64) (Kd.pair Kd.string (Kd.slice 93 d)))) (fun x : S93 => (x.f0, x.f1, x.f2, x.f3))
theorem mono93 : Kd.Mono F93 := Kd.mono_iso _ (Kd.mono_pair (Kd.mono_const _) (Kd.mono_pair (Kd.mono_const _) (Kd.mono_pair (Kd.mono_const _) (Kd.mono_slice 93 Kd.mono_id))))
theorem sub93 : Kd.Sub F93 [93] := Kd.sub_iso _ (Kd.sub_pair (Kd.sub_const _ (by decide)) (Kd.sub_pair (Kd.sub_const _ (by decide)) (Kd.sub_pair (Kd.sub_const _ (by decide)) (Kd.sub_slice 93 (by decide) Kd.sub_id))))
theorem sz93 : ∀ n, (Kd.upto F93 4 [93] n).sz = 4 := Kd.upto_sz (fun _ => rfl)
def k93 : Kd S93 := Kd.fix F93 4 [93] sz93 (Kd.upto_E sub93)
theorem k93_mk (w : World) (x : S93) {A3 : Option Addr} {c3 : Nat} (l3 : x.f3.length ≤ c3) (g3 : k93.C w A3 x.f3.length x.f3) : k93.K w x [.int .i64 x.f0, .int .i64 x.f1, .string x.f2, .slice A3 x.f3.length c3] := by
  obtain ⟨n3, q3⟩ := Kd.fix_C_back mono93 g3
  have r3 := Kd.upto_C_le mono93 sz93 (show n3 ≤ n3 by omega) q3
  exact ⟨n3 + 1, ⟨[.int .i64 x.f0], [.int .i64 x.f1, .string x.f2, .slice A3 x.f3.length c3], rfl, rfl, ⟨[.int .i64 x.f1], [.string x.f2, .slice A3 x.f3.length c3], rfl, rfl, ⟨[.string x.f2], [.slice A3 x.f3.length c3], rfl, rfl, ⟨A3, c3, rfl, l3, r3⟩⟩⟩⟩⟩
structure S97 where
  f0 : Int
  f1 : Int
  f2 : ByteArray
def k97 : Kd S97 := Kd.iso (Kd.pair (Kd.int .i64) (Kd.pair (Kd.int .i64) Kd.string)) (fun x : S97 => (x.f0, x.f1, x.f2))
structure S99 where
  f0 : S93
  f1 : Int
def k99 : Kd S99 := Kd.iso (Kd.pair k93 (Kd.int .i64)) (fun x : S99 => (x.f0, x.f1))
structure S50 where
  f0 : ByteArray
  f1 : Int
  f2 : ByteArray
def z50 : S50 := ⟨(⟨#[]⟩ : ByteArray), (0 : Int), (⟨#[]⟩ : ByteArray)⟩
def k50 : Kd S50 := Kd.iso (Kd.pair Kd.string (Kd.pair (Kd.int .i64) Kd.string)) (fun x : S50 => (x.f0, x.f1, x.f2))
theorem k50_open {w : World} {x : S50} {cs : List Value} (h : k50.K w x cs) : cs = [.string x.f0, .int .i64 x.f1, .string x.f2] := by
  obtain ⟨_, _, rfl, rfl, ⟨_, _, rfl, rfl, rfl⟩⟩ := h
  exact rfl
def rd_T50 (xs : List S50) (i : Int) : S50 := xs.getD i.toNat z50
theorem at_T50 {w : World} {A : Option Addr} {n : Nat} {xs : List S50} (h : Kd.C k50 w A n xs) (i : Int) (h0 : 0 ≤ i) (h1 : i < n) : ∃ ad , A = some ad ∧ w.cell? (ad.add (i.toNat * 3)) = some (.string (rd_T50 xs i).f0) ∧ w.cell? ⟨(ad.add (i.toNat * 3)).block, (ad.add (i.toNat * 3)).off + 1, none⟩ = some (.int .i64 (rd_T50 xs i).f1) ∧ w.cell? ⟨(ad.add (i.toNat * 3)).block, (ad.add (i.toNat * 3)).off + 2, none⟩ = some (.string (rd_T50 xs i).f2) := by
  obtain ⟨ad, c, e, _, hK, hc0⟩ := Kd.C_get h z50 i h0 h1
  have hc : ∀ j u, c[j]? = some u → w.cell? (ad.add (i.toNat * 3 + j)) = some u := hc0
  obtain rfl := k50_open hK
  exact ⟨ad, e, hc 0 _ rfl, by rw [← add_field _ _ 1 (by omega)]; exact hc 1 _ rfl, by rw [← add_field _ _ 2 (by omega)]; exact hc 2 _ rfl⟩

structure S44 where
  f0 : Int
  f1 : (List Int)
  f2 : ByteArray
  f3 : Int
  f4 : (List S93)
  f5 : Int
  f6 : Int
  f7 : Int
  f8 : (List Int)
  f9 : (List Int)
  f10 : Int
  f11 : Int
  f12 : Int
  f13 : (List S97)
  f14 : (List S99)
  f15 : (List S50)
def z44 : S44 := ⟨(0 : Int), ([] : List Int), (⟨#[]⟩ : ByteArray), (0 : Int), ([] : List S93), (0 : Int), (0 : Int), (0 : Int), ([] : List Int), ([] : List Int), (0 : Int), (0 : Int), (0 : Int), ([] : List S97), ([] : List S99), ([] : List S50)⟩
def k44 : Kd S44 := Kd.iso (Kd.pair (Kd.int .i64) (Kd.pair (Kd.slice 3 (Kd.int .i64)) (Kd.pair Kd.string (Kd.pair (Kd.int .i64) (Kd.pair (Kd.slice 93 k93) (Kd.pair (Kd.int .i64) (Kd.pair (Kd.int .i64) (Kd.pair (Kd.int .i64) (Kd.pair (Kd.slice 3 (Kd.int .i64)) (Kd.pair (Kd.slice 3 (Kd.int .i64)) (Kd.pair (Kd.int .i64) (Kd.pair (Kd.int .i64) (Kd.pair (Kd.int .i64) (Kd.pair (Kd.slice 97 k97) (Kd.pair (Kd.slice 99 k99) (Kd.slice 50 k50)))))))))))))))) (fun x : S44 => (x.f0, x.f1, x.f2, x.f3, x.f4, x.f5, x.f6, x.f7, x.f8, x.f9, x.f10, x.f11, x.f12, x.f13, x.f14, x.f15))
theorem k44_open {w : World} {x : S44} {cs : List Value} (h : k44.K w x cs) : ∃ A1 c1 A4 c4 A8 c8 A9 c9 A13 c13 A14 c14 A15 c15, cs = [.int .i64 x.f0, .slice A1 x.f1.length c1, .string x.f2, .int .i64 x.f3, .slice A4 x.f4.length c4, .int .i64 x.f5, .int .i64 x.f6, .int .i64 x.f7, .slice A8 x.f8.length c8, .slice A9 x.f9.length c9, .int .i64 x.f10, .int .i64 x.f11, .int .i64 x.f12, .slice A13 x.f13.length c13, .slice A14 x.f14.length c14, .slice A15 x.f15.length c15] ∧ x.f1.length ≤ c1 ∧ (Kd.int .i64).C w A1 x.f1.length x.f1 ∧ x.f4.length ≤ c4 ∧ k93.C w A4 x.f4.length x.f4 ∧ x.f8.length ≤ c8 ∧ (Kd.int .i64).C w A8 x.f8.length x.f8 ∧ x.f9.length ≤ c9 ∧ (Kd.int .i64).C w A9 x.f9.length x.f9 ∧ x.f13.length ≤ c13 ∧ k97.C w A13 x.f13.length x.f13 ∧ x.f14.length ≤ c14 ∧ k99.C w A14 x.f14.length x.f14 ∧ x.f15.length ≤ c15 ∧ k50.C w A15 x.f15.length x.f15 := by
  obtain ⟨_, _, rfl, rfl, ⟨_, _, rfl, ⟨A1, c1, rfl, l1, g1⟩, ⟨_, _, rfl, rfl, ⟨_, _, rfl, rfl, ⟨_, _, rfl, ⟨A4, c4, rfl, l4, g4⟩, ⟨_, _, rfl, rfl, ⟨_, _, rfl, rfl, ⟨_, _, rfl, rfl, ⟨_, _, rfl, ⟨A8, c8, rfl, l8, g8⟩, ⟨_, _, rfl, ⟨A9, c9, rfl, l9, g9⟩, ⟨_, _, rfl, rfl, ⟨_, _, rfl, rfl, ⟨_, _, rfl, rfl, ⟨_, _, rfl, ⟨A13, c13, rfl, l13, g13⟩, ⟨_, _, rfl, ⟨A14, c14, rfl, l14, g14⟩, ⟨A15, c15, rfl, l15, g15⟩⟩⟩⟩⟩⟩⟩⟩⟩⟩⟩⟩⟩⟩⟩⟩ := h
  exact ⟨A1, c1, A4, c4, A8, c8, A9, c9, A13, c13, A14, c14, A15, c15, rfl, l1, g1, l4, g4, l8, g8, l9, g9, l13, g13, l14, g14, l15, g15⟩
theorem k44_mk (w : World) (x : S44) {A1 : Option Addr} {c1 : Nat} (l1 : x.f1.length ≤ c1) (g1 : (Kd.int .i64).C w A1 x.f1.length x.f1) {A4 : Option Addr} {c4 : Nat} (l4 : x.f4.length ≤ c4) (g4 : k93.C w A4 x.f4.length x.f4) {A8 : Option Addr} {c8 : Nat} (l8 : x.f8.length ≤ c8) (g8 : (Kd.int .i64).C w A8 x.f8.length x.f8) {A9 : Option Addr} {c9 : Nat} (l9 : x.f9.length ≤ c9) (g9 : (Kd.int .i64).C w A9 x.f9.length x.f9) {A13 : Option Addr} {c13 : Nat} (l13 : x.f13.length ≤ c13) (g13 : k97.C w A13 x.f13.length x.f13) {A14 : Option Addr} {c14 : Nat} (l14 : x.f14.length ≤ c14) (g14 : k99.C w A14 x.f14.length x.f14) {A15 : Option Addr} {c15 : Nat} (l15 : x.f15.length ≤ c15) (g15 : k50.C w A15 x.f15.length x.f15) : k44.K w x [.int .i64 x.f0, .slice A1 x.f1.length c1, .string x.f2, .int .i64 x.f3, .slice A4 x.f4.length c4, .int .i64 x.f5, .int .i64 x.f6, .int .i64 x.f7, .slice A8 x.f8.length c8, .slice A9 x.f9.length c9, .int .i64 x.f10, .int .i64 x.f11, .int .i64 x.f12, .slice A13 x.f13.length c13, .slice A14 x.f14.length c14, .slice A15 x.f15.length c15] := ⟨[.int .i64 x.f0], [.slice A1 x.f1.length c1, .string x.f2, .int .i64 x.f3, .slice A4 x.f4.length c4, .int .i64 x.f5, .int .i64 x.f6, .int .i64 x.f7, .slice A8 x.f8.length c8, .slice A9 x.f9.length c9, .int .i64 x.f10, .int .i64 x.f11, .int .i64 x.f12, .slice A13 x.f13.length c13, .slice A14 x.f14.length c14, .slice A15 x.f15.length c15], rfl, rfl, ⟨[.slice A1 x.f1.length c1], [.string x.f2, .int .i64 x.f3, .slice A4 x.f4.length c4, .int .i64 x.f5, .int .i64 x.f6, .int .i64 x.f7, .slice A8 x.f8.length c8, .slice A9 x.f9.length c9, .int .i64 x.f10, .int .i64 x.f11, .int .i64 x.f12, .slice A13 x.f13.length c13, .slice A14 x.f14.length c14, .slice A15 x.f15.length c15], rfl, ⟨A1, c1, rfl, l1, g1⟩, ⟨[.string x.f2], [.int .i64 x.f3, .slice A4 x.f4.length c4, .int .i64 x.f5, .int .i64 x.f6, .int .i64 x.f7, .slice A8 x.f8.length c8, .slice A9 x.f9.length c9, .int .i64 x.f10, .int .i64 x.f11, .int .i64 x.f12, .slice A13 x.f13.length c13, .slice A14 x.f14.length c14, .slice A15 x.f15.length c15], rfl, rfl, ⟨[.int .i64 x.f3], [.slice A4 x.f4.length c4, .int .i64 x.f5, .int .i64 x.f6, .int .i64 x.f7, .slice A8 x.f8.length c8, .slice A9 x.f9.length c9, .int .i64 x.f10, .int .i64 x.f11, .int .i64 x.f12, .slice A13 x.f13.length c13, .slice A14 x.f14.length c14, .slice A15 x.f15.length c15], rfl, rfl, ⟨[.slice A4 x.f4.length c4], [.int .i64 x.f5, .int .i64 x.f6, .int .i64 x.f7, .slice A8 x.f8.length c8, .slice A9 x.f9.length c9, .int .i64 x.f10, .int .i64 x.f11, .int .i64 x.f12, .slice A13 x.f13.length c13, .slice A14 x.f14.length c14, .slice A15 x.f15.length c15], rfl, ⟨A4, c4, rfl, l4, g4⟩, ⟨[.int .i64 x.f5], [.int .i64 x.f6, .int .i64 x.f7, .slice A8 x.f8.length c8, .slice A9 x.f9.length c9, .int .i64 x.f10, .int .i64 x.f11, .int .i64 x.f12, .slice A13 x.f13.length c13, .slice A14 x.f14.length c14, .slice A15 x.f15.length c15], rfl, rfl, ⟨[.int .i64 x.f6], [.int .i64 x.f7, .slice A8 x.f8.length c8, .slice A9 x.f9.length c9, .int .i64 x.f10, .int .i64 x.f11, .int .i64 x.f12, .slice A13 x.f13.length c13, .slice A14 x.f14.length c14, .slice A15 x.f15.length c15], rfl, rfl, ⟨[.int .i64 x.f7], [.slice A8 x.f8.length c8, .slice A9 x.f9.length c9, .int .i64 x.f10, .int .i64 x.f11, .int .i64 x.f12, .slice A13 x.f13.length c13, .slice A14 x.f14.length c14, .slice A15 x.f15.length c15], rfl, rfl, ⟨[.slice A8 x.f8.length c8], [.slice A9 x.f9.length c9, .int .i64 x.f10, .int .i64 x.f11, .int .i64 x.f12, .slice A13 x.f13.length c13, .slice A14 x.f14.length c14, .slice A15 x.f15.length c15], rfl, ⟨A8, c8, rfl, l8, g8⟩, ⟨[.slice A9 x.f9.length c9], [.int .i64 x.f10, .int .i64 x.f11, .int .i64 x.f12, .slice A13 x.f13.length c13, .slice A14 x.f14.length c14, .slice A15 x.f15.length c15], rfl, ⟨A9, c9, rfl, l9, g9⟩, ⟨[.int .i64 x.f10], [.int .i64 x.f11, .int .i64 x.f12, .slice A13 x.f13.length c13, .slice A14 x.f14.length c14, .slice A15 x.f15.length c15], rfl, rfl, ⟨[.int .i64 x.f11], [.int .i64 x.f12, .slice A13 x.f13.length c13, .slice A14 x.f14.length c14, .slice A15 x.f15.length c15], rfl, rfl, ⟨[.int .i64 x.f12], [.slice A13 x.f13.length c13, .slice A14 x.f14.length c14, .slice A15 x.f15.length c15], rfl, rfl, ⟨[.slice A13 x.f13.length c13], [.slice A14 x.f14.length c14, .slice A15 x.f15.length c15], rfl, ⟨A13, c13, rfl, l13, g13⟩, ⟨[.slice A14 x.f14.length c14], [.slice A15 x.f15.length c15], rfl, ⟨A14, c14, rfl, l14, g14⟩, ⟨A15, c15, rfl, l15, g15⟩⟩⟩⟩⟩⟩⟩⟩⟩⟩⟩⟩⟩⟩⟩⟩
theorem k44_openF {W : World} {ok : Nat → Prop} {x : S44} {cs : List Value} (h : Kd.FK k44 W ok x cs) : ∃ A1 c1 A4 c4 A8 c8 A9 c9 A13 c13 A14 c14 A15 c15, cs = [.int .i64 x.f0, .slice A1 x.f1.length c1, .string x.f2, .int .i64 x.f3, .slice A4 x.f4.length c4, .int .i64 x.f5, .int .i64 x.f6, .int .i64 x.f7, .slice A8 x.f8.length c8, .slice A9 x.f9.length c9, .int .i64 x.f10, .int .i64 x.f11, .int .i64 x.f12, .slice A13 x.f13.length c13, .slice A14 x.f14.length c14, .slice A15 x.f15.length c15] ∧ x.f1.length ≤ c1 ∧ Kd.F (Kd.int .i64) W ok A1 x.f1.length x.f1 ∧ x.f4.length ≤ c4 ∧ Kd.F k93 W ok A4 x.f4.length x.f4 ∧ x.f8.length ≤ c8 ∧ Kd.F (Kd.int .i64) W ok A8 x.f8.length x.f8 ∧ x.f9.length ≤ c9 ∧ Kd.F (Kd.int .i64) W ok A9 x.f9.length x.f9 ∧ x.f13.length ≤ c13 ∧ Kd.F k97 W ok A13 x.f13.length x.f13 ∧ x.f14.length ≤ c14 ∧ Kd.F k99 W ok A14 x.f14.length x.f14 ∧ x.f15.length ≤ c15 ∧ Kd.F k50 W ok A15 x.f15.length x.f15 := by
  obtain ⟨A1, c1, A4, c4, A8, c8, A9, c9, A13, c13, A14, c14, A15, c15, rfl, l1, _, l4, _, l8, _, l9, _, l13, _, l14, _, l15, _⟩ := k44_open (Kd.FK_now h)
  exact ⟨A1, c1, A4, c4, A8, c8, A9, c9, A13, c13, A14, c14, A15, c15, rfl, l1, (fun W' hW => by obtain ⟨A1_, c1_, A4_, c4_, A8_, c8_, A9_, c9_, A13_, c13_, A14_, c14_, A15_, c15_, he, l1_, g1_, l4_, g4_, l8_, g8_, l9_, g9_, l13_, g13_, l14_, g14_, l15_, g15_⟩ := k44_open (h W' hW); injection (Option.some.inj (show some (Value.slice A1 x.f1.length c1) = some (Value.slice A1_ x.f1.length c1_) from congrArg (fun l => l[1]?) he)) with ha_ _ _; rw [ha_]; exact g1_), l4, (fun W' hW => by obtain ⟨A1_, c1_, A4_, c4_, A8_, c8_, A9_, c9_, A13_, c13_, A14_, c14_, A15_, c15_, he, l1_, g1_, l4_, g4_, l8_, g8_, l9_, g9_, l13_, g13_, l14_, g14_, l15_, g15_⟩ := k44_open (h W' hW); injection (Option.some.inj (show some (Value.slice A4 x.f4.length c4) = some (Value.slice A4_ x.f4.length c4_) from congrArg (fun l => l[4]?) he)) with ha_ _ _; rw [ha_]; exact g4_), l8, (fun W' hW => by obtain ⟨A1_, c1_, A4_, c4_, A8_, c8_, A9_, c9_, A13_, c13_, A14_, c14_, A15_, c15_, he, l1_, g1_, l4_, g4_, l8_, g8_, l9_, g9_, l13_, g13_, l14_, g14_, l15_, g15_⟩ := k44_open (h W' hW); injection (Option.some.inj (show some (Value.slice A8 x.f8.length c8) = some (Value.slice A8_ x.f8.length c8_) from congrArg (fun l => l[8]?) he)) with ha_ _ _; rw [ha_]; exact g8_), l9, (fun W' hW => by obtain ⟨A1_, c1_, A4_, c4_, A8_, c8_, A9_, c9_, A13_, c13_, A14_, c14_, A15_, c15_, he, l1_, g1_, l4_, g4_, l8_, g8_, l9_, g9_, l13_, g13_, l14_, g14_, l15_, g15_⟩ := k44_open (h W' hW); injection (Option.some.inj (show some (Value.slice A9 x.f9.length c9) = some (Value.slice A9_ x.f9.length c9_) from congrArg (fun l => l[9]?) he)) with ha_ _ _; rw [ha_]; exact g9_), l13, (fun W' hW => by obtain ⟨A1_, c1_, A4_, c4_, A8_, c8_, A9_, c9_, A13_, c13_, A14_, c14_, A15_, c15_, he, l1_, g1_, l4_, g4_, l8_, g8_, l9_, g9_, l13_, g13_, l14_, g14_, l15_, g15_⟩ := k44_open (h W' hW); injection (Option.some.inj (show some (Value.slice A13 x.f13.length c13) = some (Value.slice A13_ x.f13.length c13_) from congrArg (fun l => l[13]?) he)) with ha_ _ _; rw [ha_]; exact g13_), l14, (fun W' hW => by obtain ⟨A1_, c1_, A4_, c4_, A8_, c8_, A9_, c9_, A13_, c13_, A14_, c14_, A15_, c15_, he, l1_, g1_, l4_, g4_, l8_, g8_, l9_, g9_, l13_, g13_, l14_, g14_, l15_, g15_⟩ := k44_open (h W' hW); injection (Option.some.inj (show some (Value.slice A14 x.f14.length c14) = some (Value.slice A14_ x.f14.length c14_) from congrArg (fun l => l[14]?) he)) with ha_ _ _; rw [ha_]; exact g14_), l15, (fun W' hW => by obtain ⟨A1_, c1_, A4_, c4_, A8_, c8_, A9_, c9_, A13_, c13_, A14_, c14_, A15_, c15_, he, l1_, g1_, l4_, g4_, l8_, g8_, l9_, g9_, l13_, g13_, l14_, g14_, l15_, g15_⟩ := k44_open (h W' hW); injection (Option.some.inj (show some (Value.slice A15 x.f15.length c15) = some (Value.slice A15_ x.f15.length c15_) from congrArg (fun l => l[15]?) he)) with ha_ _ _; rw [ha_]; exact g15_)⟩
theorem k44_mkF (W : World) (ok : Nat → Prop) (x : S44) {A1 : Option Addr} {c1 : Nat} (l1 : x.f1.length ≤ c1) (g1 : Kd.F (Kd.int .i64) W ok A1 x.f1.length x.f1) {A4 : Option Addr} {c4 : Nat} (l4 : x.f4.length ≤ c4) (g4 : Kd.F k93 W ok A4 x.f4.length x.f4) {A8 : Option Addr} {c8 : Nat} (l8 : x.f8.length ≤ c8) (g8 : Kd.F (Kd.int .i64) W ok A8 x.f8.length x.f8) {A9 : Option Addr} {c9 : Nat} (l9 : x.f9.length ≤ c9) (g9 : Kd.F (Kd.int .i64) W ok A9 x.f9.length x.f9) {A13 : Option Addr} {c13 : Nat} (l13 : x.f13.length ≤ c13) (g13 : Kd.F k97 W ok A13 x.f13.length x.f13) {A14 : Option Addr} {c14 : Nat} (l14 : x.f14.length ≤ c14) (g14 : Kd.F k99 W ok A14 x.f14.length x.f14) {A15 : Option Addr} {c15 : Nat} (l15 : x.f15.length ≤ c15) (g15 : Kd.F k50 W ok A15 x.f15.length x.f15) : Kd.FK k44 W ok x [.int .i64 x.f0, .slice A1 x.f1.length c1, .string x.f2, .int .i64 x.f3, .slice A4 x.f4.length c4, .int .i64 x.f5, .int .i64 x.f6, .int .i64 x.f7, .slice A8 x.f8.length c8, .slice A9 x.f9.length c9, .int .i64 x.f10, .int .i64 x.f11, .int .i64 x.f12, .slice A13 x.f13.length c13, .slice A14 x.f14.length c14, .slice A15 x.f15.length c15] := fun W2 hW => k44_mk W2 x l1 (g1 W2 hW) l4 (g4 W2 hW) l8 (g8 W2 hW) l9 (g9 W2 hW) l13 (g13 W2 hW) l14 (g14 W2 hW) l15 (g15 W2 hW)
def rd_T44 (xs : List S44) (i : Int) : S44 := xs.getD i.toNat z44
theorem at_T44 {w : World} {A : Option Addr} {n : Nat} {xs : List S44} (h : Kd.C k44 w A n xs) (i : Int) (h0 : 0 ≤ i) (h1 : i < n) : ∃ ad A1 c1 A4 c4 A8 c8 A9 c9 A13 c13 A14 c14 A15 c15, A = some ad ∧ w.cell? (ad.add (i.toNat * 16)) = some (.int .i64 (rd_T44 xs i).f0) ∧ w.cell? ⟨(ad.add (i.toNat * 16)).block, (ad.add (i.toNat * 16)).off + 1, none⟩ = some (.slice A1 (rd_T44 xs i).f1.length c1) ∧ w.cell? ⟨(ad.add (i.toNat * 16)).block, (ad.add (i.toNat * 16)).off + 2, none⟩ = some (.string (rd_T44 xs i).f2) ∧ w.cell? ⟨(ad.add (i.toNat * 16)).block, (ad.add (i.toNat * 16)).off + 3, none⟩ = some (.int .i64 (rd_T44 xs i).f3) ∧ w.cell? ⟨(ad.add (i.toNat * 16)).block, (ad.add (i.toNat * 16)).off + 4, none⟩ = some (.slice A4 (rd_T44 xs i).f4.length c4) ∧ w.cell? ⟨(ad.add (i.toNat * 16)).block, (ad.add (i.toNat * 16)).off + 5, none⟩ = some (.int .i64 (rd_T44 xs i).f5) ∧ w.cell? ⟨(ad.add (i.toNat * 16)).block, (ad.add (i.toNat * 16)).off + 6, none⟩ = some (.int .i64 (rd_T44 xs i).f6) ∧ w.cell? ⟨(ad.add (i.toNat * 16)).block, (ad.add (i.toNat * 16)).off + 7, none⟩ = some (.int .i64 (rd_T44 xs i).f7) ∧ w.cell? ⟨(ad.add (i.toNat * 16)).block, (ad.add (i.toNat * 16)).off + 8, none⟩ = some (.slice A8 (rd_T44 xs i).f8.length c8) ∧ w.cell? ⟨(ad.add (i.toNat * 16)).block, (ad.add (i.toNat * 16)).off + 9, none⟩ = some (.slice A9 (rd_T44 xs i).f9.length c9) ∧ w.cell? ⟨(ad.add (i.toNat * 16)).block, (ad.add (i.toNat * 16)).off + 10, none⟩ = some (.int .i64 (rd_T44 xs i).f10) ∧ w.cell? ⟨(ad.add (i.toNat * 16)).block, (ad.add (i.toNat * 16)).off + 11, none⟩ = some (.int .i64 (rd_T44 xs i).f11) ∧ w.cell? ⟨(ad.add (i.toNat * 16)).block, (ad.add (i.toNat * 16)).off + 12, none⟩ = some (.int .i64 (rd_T44 xs i).f12) ∧ w.cell? ⟨(ad.add (i.toNat * 16)).block, (ad.add (i.toNat * 16)).off + 13, none⟩ = some (.slice A13 (rd_T44 xs i).f13.length c13) ∧ w.cell? ⟨(ad.add (i.toNat * 16)).block, (ad.add (i.toNat * 16)).off + 14, none⟩ = some (.slice A14 (rd_T44 xs i).f14.length c14) ∧ w.cell? ⟨(ad.add (i.toNat * 16)).block, (ad.add (i.toNat * 16)).off + 15, none⟩ = some (.slice A15 (rd_T44 xs i).f15.length c15) ∧ (rd_T44 xs i).f1.length ≤ c1 ∧ (Kd.int .i64).C w A1 (rd_T44 xs i).f1.length (rd_T44 xs i).f1 ∧ (rd_T44 xs i).f4.length ≤ c4 ∧ k93.C w A4 (rd_T44 xs i).f4.length (rd_T44 xs i).f4 ∧ (rd_T44 xs i).f8.length ≤ c8 ∧ (Kd.int .i64).C w A8 (rd_T44 xs i).f8.length (rd_T44 xs i).f8 ∧ (rd_T44 xs i).f9.length ≤ c9 ∧ (Kd.int .i64).C w A9 (rd_T44 xs i).f9.length (rd_T44 xs i).f9 ∧ (rd_T44 xs i).f13.length ≤ c13 ∧ k97.C w A13 (rd_T44 xs i).f13.length (rd_T44 xs i).f13 ∧ (rd_T44 xs i).f14.length ≤ c14 ∧ k99.C w A14 (rd_T44 xs i).f14.length (rd_T44 xs i).f14 ∧ (rd_T44 xs i).f15.length ≤ c15 ∧ k50.C w A15 (rd_T44 xs i).f15.length (rd_T44 xs i).f15 := by
  obtain ⟨ad, c, e, _, hK, hc0⟩ := Kd.C_get h z44 i h0 h1
  have hc : ∀ j u, c[j]? = some u → w.cell? (ad.add (i.toNat * 16 + j)) = some u := hc0
  obtain ⟨A1, c1, A4, c4, A8, c8, A9, c9, A13, c13, A14, c14, A15, c15, rfl, l1, g1, l4, g4, l8, g8, l9, g9, l13, g13, l14, g14, l15, g15⟩ := k44_open hK
  exact ⟨ad, A1, c1, A4, c4, A8, c8, A9, c9, A13, c13, A14, c14, A15, c15, e, hc 0 _ rfl, by rw [← add_field _ _ 1 (by omega)]; exact hc 1 _ rfl, by rw [← add_field _ _ 2 (by omega)]; exact hc 2 _ rfl, by rw [← add_field _ _ 3 (by omega)]; exact hc 3 _ rfl, by rw [← add_field _ _ 4 (by omega)]; exact hc 4 _ rfl, by rw [← add_field _ _ 5 (by omega)]; exact hc 5 _ rfl, by rw [← add_field _ _ 6 (by omega)]; exact hc 6 _ rfl, by rw [← add_field _ _ 7 (by omega)]; exact hc 7 _ rfl, by rw [← add_field _ _ 8 (by omega)]; exact hc 8 _ rfl, by rw [← add_field _ _ 9 (by omega)]; exact hc 9 _ rfl, by rw [← add_field _ _ 10 (by omega)]; exact hc 10 _ rfl, by rw [← add_field _ _ 11 (by omega)]; exact hc 11 _ rfl, by rw [← add_field _ _ 12 (by omega)]; exact hc 12 _ rfl, by rw [← add_field _ _ 13 (by omega)]; exact hc 13 _ rfl, by rw [← add_field _ _ 14 (by omega)]; exact hc 14 _ rfl, by rw [← add_field _ _ 15 (by omega)]; exact hc 15 _ rfl, l1, g1, l4, g4, l8, g8, l9, g9, l13, g13, l14, g14, l15, g15⟩

structure S95 where
  f0 : ByteArray
  f1 : (List Int)
  f2 : Int
  f3 : S93
def k95 : Kd S95 := Kd.iso (Kd.pair Kd.string (Kd.pair (Kd.slice 3 (Kd.int .i64)) (Kd.pair (Kd.int .i64) k93))) (fun x : S95 => (x.f0, x.f1, x.f2, x.f3))
structure S37 where
  f0 : Int
  f1 : Int
  f2 : Int
  f3 : Int
def z37 : S37 := ⟨(0 : Int), (0 : Int), (0 : Int), (0 : Int)⟩
def k37 : Kd S37 := Kd.iso (Kd.pair (Kd.int .i64) (Kd.pair (Kd.int .i64) (Kd.pair (Kd.int .i64) (Kd.int .i64)))) (fun x : S37 => (x.f0, x.f1, x.f2, x.f3))
theorem k37_open {w : World} {x : S37} {cs : List Value} (h : k37.K w x cs) : cs = [.int .i64 x.f0, .int .i64 x.f1, .int .i64 x.f2, .int .i64 x.f3] := by
  obtain ⟨_, _, rfl, rfl, ⟨_, _, rfl, rfl, ⟨_, _, rfl, rfl, rfl⟩⟩⟩ := h
  exact rfl
theorem k37_mkM (w : World) (base : Nat) (ok : Nat → Prop) (x : S37)  : k37.M w base ok x [.int .i64 x.f0, .int .i64 x.f1, .int .i64 x.f2, .int .i64 x.f3] := ⟨[.int .i64 x.f0], [.int .i64 x.f1, .int .i64 x.f2, .int .i64 x.f3], rfl, rfl, ⟨[.int .i64 x.f1], [.int .i64 x.f2, .int .i64 x.f3], rfl, rfl, ⟨[.int .i64 x.f2], [.int .i64 x.f3], rfl, rfl, rfl⟩⟩⟩
def rd_T37 (xs : List S37) (i : Int) : S37 := xs.getD i.toNat z37
theorem at_T37 {w : World} {A : Option Addr} {n : Nat} {xs : List S37} (h : Kd.C k37 w A n xs) (i : Int) (h0 : 0 ≤ i) (h1 : i < n) : ∃ ad , A = some ad ∧ w.cell? (ad.add (i.toNat * 4)) = some (.int .i64 (rd_T37 xs i).f0) ∧ w.cell? ⟨(ad.add (i.toNat * 4)).block, (ad.add (i.toNat * 4)).off + 1, none⟩ = some (.int .i64 (rd_T37 xs i).f1) ∧ w.cell? ⟨(ad.add (i.toNat * 4)).block, (ad.add (i.toNat * 4)).off + 2, none⟩ = some (.int .i64 (rd_T37 xs i).f2) ∧ w.cell? ⟨(ad.add (i.toNat * 4)).block, (ad.add (i.toNat * 4)).off + 3, none⟩ = some (.int .i64 (rd_T37 xs i).f3) := by
  obtain ⟨ad, c, e, _, hK, hc0⟩ := Kd.C_get h z37 i h0 h1
  have hc : ∀ j u, c[j]? = some u → w.cell? (ad.add (i.toNat * 4 + j)) = some u := hc0
  obtain rfl := k37_open hK
  exact ⟨ad, e, hc 0 _ rfl, by rw [← add_field _ _ 1 (by omega)]; exact hc 1 _ rfl, by rw [← add_field _ _ 2 (by omega)]; exact hc 2 _ rfl, by rw [← add_field _ _ 3 (by omega)]; exact hc 3 _ rfl⟩

structure S70 where
  f0 : Int
  f1 : Int
  f2 : ByteArray
def k70 : Kd S70 := Kd.iso (Kd.pair (Kd.int .i64) (Kd.pair (Kd.int .i64) Kd.string)) (fun x : S70 => (x.f0, x.f1, x.f2))
theorem k70_mkM (w : World) (base : Nat) (ok : Nat → Prop) (x : S70)  : k70.M w base ok x [.int .i64 x.f0, .int .i64 x.f1, .string x.f2] := ⟨[.int .i64 x.f0], [.int .i64 x.f1, .string x.f2], rfl, rfl, ⟨[.int .i64 x.f1], [.string x.f2], rfl, rfl, rfl⟩⟩
structure S55 where
  f0 : Int
  f1 : (List S70)
  f2 : Int
def z55 : S55 := ⟨(0 : Int), ([] : List S70), (0 : Int)⟩
def k55 : Kd S55 := Kd.iso (Kd.pair (Kd.int .i64) (Kd.pair (Kd.slice 70 k70) (Kd.int .i64))) (fun x : S55 => (x.f0, x.f1, x.f2))
theorem k55_open {w : World} {x : S55} {cs : List Value} (h : k55.K w x cs) : ∃ A1 c1, cs = [.int .i64 x.f0, .slice A1 x.f1.length c1, .int .i64 x.f2] ∧ x.f1.length ≤ c1 ∧ k70.C w A1 x.f1.length x.f1 := by
  obtain ⟨_, _, rfl, rfl, ⟨_, _, rfl, ⟨A1, c1, rfl, l1, g1⟩, rfl⟩⟩ := h
  exact ⟨A1, c1, rfl, l1, g1⟩
theorem k55_mkM (w : World) (base : Nat) (ok : Nat → Prop) (x : S55) {v1 : Value} (g1 : k70.R 70 w base ok v1 x.f1) : k55.M w base ok x [.int .i64 x.f0, v1, .int .i64 x.f2] := ⟨[.int .i64 x.f0], [v1, .int .i64 x.f2], rfl, rfl, ⟨[v1], [.int .i64 x.f2], rfl, ⟨v1, rfl, g1⟩, rfl⟩⟩
def rd_T55 (xs : List S55) (i : Int) : S55 := xs.getD i.toNat z55
theorem at_T55 {w : World} {A : Option Addr} {n : Nat} {xs : List S55} (h : Kd.C k55 w A n xs) (i : Int) (h0 : 0 ≤ i) (h1 : i < n) : ∃ ad A1 c1, A = some ad ∧ w.cell? (ad.add (i.toNat * 3)) = some (.int .i64 (rd_T55 xs i).f0) ∧ w.cell? ⟨(ad.add (i.toNat * 3)).block, (ad.add (i.toNat * 3)).off + 1, none⟩ = some (.slice A1 (rd_T55 xs i).f1.length c1) ∧ w.cell? ⟨(ad.add (i.toNat * 3)).block, (ad.add (i.toNat * 3)).off + 2, none⟩ = some (.int .i64 (rd_T55 xs i).f2) ∧ (rd_T55 xs i).f1.length ≤ c1 ∧ k70.C w A1 (rd_T55 xs i).f1.length (rd_T55 xs i).f1 := by
  obtain ⟨ad, c, e, _, hK, hc0⟩ := Kd.C_get h z55 i h0 h1
  have hc : ∀ j u, c[j]? = some u → w.cell? (ad.add (i.toNat * 3 + j)) = some u := hc0
  obtain ⟨A1, c1, rfl, l1, g1⟩ := k55_open hK
  exact ⟨ad, A1, c1, e, hc 0 _ rfl, by rw [← add_field _ _ 1 (by omega)]; exact hc 1 _ rfl, by rw [← add_field _ _ 2 (by omega)]; exact hc 2 _ rfl, l1, g1⟩

@[reducible] def A44 (x : S44) (A1 : Option Addr) (c1 : Nat) (A4 : Option Addr) (c4 : Nat) (A8 : Option Addr) (c8 : Nat) (A9 : Option Addr) (c9 : Nat) (A13 : Option Addr) (c13 : Nat) (A14 : Option Addr) (c14 : Nat) (A15 : Option Addr) (c15 : Nat) : Array Value :=
  #[.int .i64 x.f0, .slice A1 x.f1.length c1, .string x.f2, .int .i64 x.f3, .slice A4 x.f4.length c4, .int .i64 x.f5, .int .i64 x.f6, .int .i64 x.f7, .slice A8 x.f8.length c8, .slice A9 x.f9.length c9, .int .i64 x.f10, .int .i64 x.f11, .int .i64 x.f12, .slice A13 x.f13.length c13, .slice A14 x.f14.length c14, .slice A15 x.f15.length c15]
@[reducible] def B44 (a0 : Int) (A1 : Option Addr) (l1 : List Int) (c1 : Nat) (a2 : ByteArray) (a3 : Int) (A4 : Option Addr) (l4 : List S93) (c4 : Nat) (a5 a6 a7 : Int) (A8 : Option Addr) (l8 : List Int) (c8 : Nat) (A9 : Option Addr) (l9 : List Int) (c9 : Nat) (a10 a11 a12 : Int) (A13 : Option Addr) (l13 : List S97) (c13 : Nat) (A14 : Option Addr) (l14 : List S99) (c14 : Nat) (A15 : Option Addr) (l15 : List S50) (c15 : Nat) : Array Value :=
  #[.int .i64 a0, .slice A1 l1.length c1, .string a2, .int .i64 a3, .slice A4 l4.length c4, .int .i64 a5, .int .i64 a6, .int .i64 a7, .slice A8 l8.length c8, .slice A9 l9.length c9, .int .i64 a10, .int .i64 a11, .int .i64 a12, .slice A13 l13.length c13, .slice A14 l14.length c14, .slice A15 l15.length c15]

end Go.Proofs.Yteoljddobfnfiaa.PB
end
section
namespace Go.Proofs.Yteoljddobfnfiaa.PB
open Go.RowKit Go.Proofs.YteoljddobfnfiaaW.PrintWords Go.Proofs.YteoljddobfnfiaaW.PrintLast Go.Proofs.YteoljddobfnfiaaW.PrintMore
attribute [local go_sem] max2_int min2_int max_two min_two max_three min_three max_four min_four
attribute [local go_sem ↓ high] Go.Proofs.Yteoljddobfnfiaa.My.ld44_eq Go.Proofs.Yteoljddobfnfiaa.My.st44_eq Go.Proofs.Yteoljddobfnfiaa.My.ld27_eq Go.Proofs.Yteoljddobfnfiaa.My.st27_eq Go.Proofs.Yteoljddobfnfiaa.My.ld37_eq Go.Proofs.Yteoljddobfnfiaa.My.st37_eq Go.Proofs.Yteoljddobfnfiaa.My.ld65_eq Go.Proofs.Yteoljddobfnfiaa.My.st65_eq
attribute [local go_sem high] Go.Proofs.Yteoljddobfnfiaa.My.ld44_run Go.Proofs.Yteoljddobfnfiaa.My.st44_run Go.Proofs.Yteoljddobfnfiaa.My.ld27_run Go.Proofs.Yteoljddobfnfiaa.My.st27_run Go.Proofs.Yteoljddobfnfiaa.My.ld37_run Go.Proofs.Yteoljddobfnfiaa.My.st37_run Go.Proofs.Yteoljddobfnfiaa.My.ld65_run Go.Proofs.Yteoljddobfnfiaa.My.st65_run
open Go.Proofs.Yteoljddobfnfiaa.My
attribute [local go_sem] cell_map run_store_fnV one_int one_bool one_string one_slice one_fnV
set_option linter.unusedVariables false
set_option linter.unusedSimpArgs false

def errataref20_within.f (a0 : Int) (a1 : Int) (a2 : Int) : Option (Bool) := if a0 ≥ a1 then (some (decide (a0 ≤ a2))) else (some false)
def bounds_always.f (a0_0 : Int) (l0_1 : List Int) (a0_2 : ByteArray) (a0_3 : Int) (l0_4 : List (S93)) (a0_5 : Int) (a0_6 : Int) (a0_7 : Int) (l0_8 : List Int) (l0_9 : List Int) (a0_10 : Int) (a0_11 : Int) (a0_12 : Int) (l0_13 : List (S97)) (l0_14 : List (S99)) (l0_15 : List (S50)) : Option (Bool) := some true
set_option maxHeartbeats 8000000 in
set_option maxRecDepth 100000 in
theorem bounds_always.calls (a0_0 : Int) (A0_1 : Option Addr) (c0_1 : Nat) (l0_1 : List Int) (a0_2 : ByteArray) (a0_3 : Int) (A0_4 : Option Addr) (c0_4 : Nat) (l0_4 : List (S93)) (a0_5 : Int) (a0_6 : Int) (a0_7 : Int) (A0_8 : Option Addr) (c0_8 : Nat) (l0_8 : List Int) (A0_9 : Option Addr) (c0_9 : Nat) (l0_9 : List Int) (a0_10 : Int) (a0_11 : Int) (a0_12 : Int) (A0_13 : Option Addr) (c0_13 : Nat) (l0_13 : List (S97)) (A0_14 : Option Addr) (c0_14 : Nat) (l0_14 : List (S99)) (A0_15 : Option Addr) (c0_15 : Nat) (l0_15 : List (S50)) (r : Bool) (w : World) (hr0_1 : Kd.C (Kd.int .i64) w A0_1 l0_1.length l0_1) (hc0_1 : l0_1.length ≤ c0_1) (hr0_4 : Kd.C k93 w A0_4 l0_4.length l0_4) (hc0_4 : l0_4.length ≤ c0_4) (hr0_8 : Kd.C (Kd.int .i64) w A0_8 l0_8.length l0_8) (hc0_8 : l0_8.length ≤ c0_8) (hr0_9 : Kd.C (Kd.int .i64) w A0_9 l0_9.length l0_9) (hc0_9 : l0_9.length ≤ c0_9) (hr0_13 : Kd.C k97 w A0_13 l0_13.length l0_13) (hc0_13 : l0_13.length ≤ c0_13) (hr0_14 : Kd.C k99 w A0_14 l0_14.length l0_14) (hc0_14 : l0_14.length ≤ c0_14) (hr0_15 : Kd.C k50 w A0_15 l0_15.length l0_15) (hc0_15 : l0_15.length ≤ c0_15) (h : bounds_always.f a0_0 l0_1 a0_2 a0_3 l0_4 a0_5 a0_6 a0_7 l0_8 l0_9 a0_10 a0_11 a0_12 l0_13 l0_14 l0_15 = some r) :
    Calls Try.prog 36 #[.agg #[.int .i64 a0_0, .slice A0_1 l0_1.length c0_1, .string a0_2, .int .i64 a0_3, .slice A0_4 l0_4.length c0_4, .int .i64 a0_5, .int .i64 a0_6, .int .i64 a0_7, .slice A0_8 l0_8.length c0_8, .slice A0_9 l0_9.length c0_9, .int .i64 a0_10, .int .i64 a0_11, .int .i64 a0_12, .slice A0_13 l0_13.length c0_13, .slice A0_14 l0_14.length c0_14, .slice A0_15 l0_15.length c0_15]] w fun e w' => e = .returned (.bool r) ∧ Below w.heap.size w w' := by
 have hu44 := Try.underlying44
 have HR0_1 := Aside0.mk hr0_1
 have HC0_1 := Aside0.mk hc0_1
 clear hr0_1 hc0_1
 have HR0_4 := Aside0.mk hr0_4
 have HC0_4 := Aside0.mk hc0_4
 clear hr0_4 hc0_4
 have HR0_8 := Aside0.mk hr0_8
 have HC0_8 := Aside0.mk hc0_8
 clear hr0_8 hc0_8
 have HR0_9 := Aside0.mk hr0_9
 have HC0_9 := Aside0.mk hc0_9
 clear hr0_9 hc0_9
 have HR0_13 := Aside0.mk hr0_13
 have HC0_13 := Aside0.mk hc0_13
 clear hr0_13 hc0_13
 have HR0_14 := Aside0.mk hr0_14
 have HC0_14 := Aside0.mk hc0_14
 clear hr0_14 hc0_14
 have HR0_15 := Aside0.mk hr0_15
 have HC0_15 := Aside0.mk hc0_15
 clear hr0_15 hc0_15
 have HB := Aside0.mk (Below.refl w.heap.size w)
 have H : (some true) = some r := h
 clear h
 obtain rfl := Option.some.inj H
 go_enter Try.func36, Try.ntmps36
 go_wp2_with (first | ((with_reducible refine gate_dst (N := 1) rfl ?_); refine box_event ?hg (N := 1) ?hd (cs := (B44 a0_0 A0_1 l0_1 c0_1 a0_2 a0_3 A0_4 l0_4 c0_4 a0_5 a0_6 a0_7 A0_8 l0_8 c0_8 A0_9 l0_9 c0_9 a0_10 a0_11 a0_12 A0_13 l0_13 c0_13 A0_14 l0_14 c0_14 A0_15 l0_15 c0_15)) (t := 44) ?hr ?_; (case hd => rfl); (case hg => rfl); (case hr => first | (go_simp; done) | (go_simp; rfl)); intro gb101 hg w2 hbox hb; have BK101 := Aside0.mk (hbox); have GW101 := Aside0.mk ((by rw [hg]; exact below_sizeA : w.heap.size ≤ gb101)); have GE101 := GW101; replace HB := Aside0.mk (below_stepA hb); clear hb hbox hg))
 go_ret
 exact ⟨by first | rfl | (simp [errW_none, errW_some] <;> rfl) | (simp [*, errW_none, errW_some] <;> rfl), belowA⟩

def bounds_within.f (a0 : Int) (a1 : Int) (a2 : Int) : Option (Bool) := if a0 ≥ a1 then (some (decide (a0 ≤ a2))) else (some false)
set_option maxHeartbeats 8000000 in
set_option maxRecDepth 100000 in
theorem bounds_within.calls (a0 : Int) (a1 : Int) (a2 : Int) (r : Bool) (w : World) (h : bounds_within.f a0 a1 a2 = some r) :
    Calls Try.prog 28 #[.int .i64 a0, .int .i64 a1, .int .i64 a2] w fun e w' => e = .returned (.bool r) ∧ Drawn0 w w' := by
 have H : (if a0 ≥ a1 then (some (decide (a0 ≤ a2))) else (some false)) = some r := h
 clear h
 by_cases c4 : a0 ≥ a1
 ·
  rw [if_pos c4] at H
  have c4b0 : decide (a1 ≤ a0) = true := decide_eq_true c4
  clear c4
  obtain rfl := Option.some.inj H
  go_enter Try.func28, Try.ntmps28
  go_wp2
  go_ret
  exact ⟨by first | rfl | (simp; done) | (simp [*]; done), by repeat (first | exact Drawn0.refl _ | apply Drawn0.step)⟩
 ·
  rw [if_neg c4] at H
  have c4b0 : decide (a1 ≤ a0) = false := decide_eq_false c4
  clear c4
  obtain rfl := Option.some.inj H
  go_enter Try.func28, Try.ntmps28
  go_wp2
  go_ret
  exact ⟨by first | rfl | (simp; done) | (simp [*]; done), by repeat (first | exact Drawn0.refl _ | apply Drawn0.step)⟩

def bounds_sized.f (a0_0 : Int) (l0_1 : List Int) (a0_2 : ByteArray) (a0_3 : Int) (l0_4 : List (S93)) (a0_5 : Int) (a0_6 : Int) (a0_7 : Int) (l0_8 : List Int) (l0_9 : List Int) (a0_10 : Int) (a0_11 : Int) (a0_12 : Int) (l0_13 : List (S97)) (l0_14 : List (S99)) (l0_15 : List (S50)) : Option (Bool) := (bounds_within.f a0_6 1 10000).bind fun t104 => (some t104)
set_option maxHeartbeats 8000000 in
set_option maxRecDepth 100000 in
theorem bounds_sized.calls (a0_0 : Int) (A0_1 : Option Addr) (c0_1 : Nat) (l0_1 : List Int) (a0_2 : ByteArray) (a0_3 : Int) (A0_4 : Option Addr) (c0_4 : Nat) (l0_4 : List (S93)) (a0_5 : Int) (a0_6 : Int) (a0_7 : Int) (A0_8 : Option Addr) (c0_8 : Nat) (l0_8 : List Int) (A0_9 : Option Addr) (c0_9 : Nat) (l0_9 : List Int) (a0_10 : Int) (a0_11 : Int) (a0_12 : Int) (A0_13 : Option Addr) (c0_13 : Nat) (l0_13 : List (S97)) (A0_14 : Option Addr) (c0_14 : Nat) (l0_14 : List (S99)) (A0_15 : Option Addr) (c0_15 : Nat) (l0_15 : List (S50)) (r : Bool) (w : World) (hr0_1 : Kd.C (Kd.int .i64) w A0_1 l0_1.length l0_1) (hc0_1 : l0_1.length ≤ c0_1) (hr0_4 : Kd.C k93 w A0_4 l0_4.length l0_4) (hc0_4 : l0_4.length ≤ c0_4) (hr0_8 : Kd.C (Kd.int .i64) w A0_8 l0_8.length l0_8) (hc0_8 : l0_8.length ≤ c0_8) (hr0_9 : Kd.C (Kd.int .i64) w A0_9 l0_9.length l0_9) (hc0_9 : l0_9.length ≤ c0_9) (hr0_13 : Kd.C k97 w A0_13 l0_13.length l0_13) (hc0_13 : l0_13.length ≤ c0_13) (hr0_14 : Kd.C k99 w A0_14 l0_14.length l0_14) (hc0_14 : l0_14.length ≤ c0_14) (hr0_15 : Kd.C k50 w A0_15 l0_15.length l0_15) (hc0_15 : l0_15.length ≤ c0_15) (h : bounds_sized.f a0_0 l0_1 a0_2 a0_3 l0_4 a0_5 a0_6 a0_7 l0_8 l0_9 a0_10 a0_11 a0_12 l0_13 l0_14 l0_15 = some r) :
    Calls Try.prog 41 #[.agg #[.int .i64 a0_0, .slice A0_1 l0_1.length c0_1, .string a0_2, .int .i64 a0_3, .slice A0_4 l0_4.length c0_4, .int .i64 a0_5, .int .i64 a0_6, .int .i64 a0_7, .slice A0_8 l0_8.length c0_8, .slice A0_9 l0_9.length c0_9, .int .i64 a0_10, .int .i64 a0_11, .int .i64 a0_12, .slice A0_13 l0_13.length c0_13, .slice A0_14 l0_14.length c0_14, .slice A0_15 l0_15.length c0_15]] w fun e w' => e = .returned (.bool r) ∧ Below w.heap.size w w' := by
 have hu44 := Try.underlying44
 have HR0_1 := Aside0.mk hr0_1
 have HC0_1 := Aside0.mk hc0_1
 clear hr0_1 hc0_1
 have HR0_4 := Aside0.mk hr0_4
 have HC0_4 := Aside0.mk hc0_4
 clear hr0_4 hc0_4
 have HR0_8 := Aside0.mk hr0_8
 have HC0_8 := Aside0.mk hc0_8
 clear hr0_8 hc0_8
 have HR0_9 := Aside0.mk hr0_9
 have HC0_9 := Aside0.mk hc0_9
 clear hr0_9 hc0_9
 have HR0_13 := Aside0.mk hr0_13
 have HC0_13 := Aside0.mk hc0_13
 clear hr0_13 hc0_13
 have HR0_14 := Aside0.mk hr0_14
 have HC0_14 := Aside0.mk hc0_14
 clear hr0_14 hc0_14
 have HR0_15 := Aside0.mk hr0_15
 have HC0_15 := Aside0.mk hc0_15
 clear hr0_15 hc0_15
 have HB := Aside0.mk (Below.refl w.heap.size w)
 have H : ((bounds_within.f a0_6 1 10000).bind fun t104 => (some t104)) = some r := h
 clear h
 replace H := Option.bind_eq_some_iff.mp H
 obtain ⟨t104, A20, H⟩ := H
 try dsimp only at H
 have A2 := Aside0.mk A20
 clear A20
 obtain rfl := Option.some.inj H
 go_enter Try.func41, Try.ntmps41
 go_wp2_with (first | ((with_reducible refine gate_dst (N := 1) rfl ?_); refine box_event ?hg (N := 1) ?hd (cs := (B44 a0_0 A0_1 l0_1 c0_1 a0_2 a0_3 A0_4 l0_4 c0_4 a0_5 a0_6 a0_7 A0_8 l0_8 c0_8 A0_9 l0_9 c0_9 a0_10 a0_11 a0_12 A0_13 l0_13 c0_13 A0_14 l0_14 c0_14 A0_15 l0_15 c0_15)) (t := 44) ?hr ?_; (case hd => rfl); (case hg => rfl); (case hr => first | (go_simp; done) | (go_simp; rfl)); intro gb103 hg w3 hbox hb; have BK103 := Aside0.mk (hbox); have GW103 := Aside0.mk ((by rw [hg]; exact below_sizeA : w.heap.size ≤ gb103)); have GE103 := GW103; replace HB := Aside0.mk (below_stepA hb); clear hb hbox hg; have hz4 := blk16 BK103.out) | ((with_reducible refine gate_callee (f := 28) rfl ?_); refine goesL_ (some 5) rfl rfl Try.func28 (by kernel_rfl) rfl #[.int .i64 a0_6, .int .i64 1, .int .i64 10000] rfl mapA ?_; (with_reducible refine (bounds_within.calls a0_6 1 10000 t104 _ A2.out).mono ?_); rintro e w' ⟨rfl, ⟨nd, rfl⟩⟩; refine ⟨_, rfl, ?_⟩))
 go_ret
 exact ⟨by first | rfl | (simp [errW_none, errW_some] <;> rfl) | (simp [*, errW_none, errW_some] <;> rfl), belowA⟩

def bounds_window.f (a0_0 : Int) (l0_1 : List Int) (a0_2 : ByteArray) (a0_3 : Int) (l0_4 : List (S93)) (a0_5 : Int) (a0_6 : Int) (a0_7 : Int) (l0_8 : List Int) (l0_9 : List Int) (a0_10 : Int) (a0_11 : Int) (a0_12 : Int) (l0_13 : List (S97)) (l0_14 : List (S99)) (l0_15 : List (S50)) : Option (Bool) := if a0_5 = 0 then ((bounds_sized.f a0_0 l0_1 a0_2 a0_3 l0_4 a0_5 a0_6 a0_7 l0_8 l0_9 a0_10 a0_11 a0_12 l0_13 l0_14 l0_15).bind fun t106 => (some t106)) else (if a0_5 = 1 then ((bounds_sized.f a0_0 l0_1 a0_2 a0_3 l0_4 a0_5 a0_6 a0_7 l0_8 l0_9 a0_10 a0_11 a0_12 l0_13 l0_14 l0_15).bind fun t107 => (if t107 = true then (if a0_7 > 0 then (if a0_7 = 0 then (none) else (some ((Int.tmod a0_6 a0_7) == 0))) else (some false)) else (some false))) else (if a0_5 = 2 then ((bounds_sized.f a0_0 l0_1 a0_2 a0_3 l0_4 a0_5 a0_6 a0_7 l0_8 l0_9 a0_10 a0_11 a0_12 l0_13 l0_14 l0_15).bind fun t108 => (if t108 = true then ((bounds_within.f a0_7 1 a0_6).bind fun t109 => (some t109)) else (some false))) else (some false)))
set_option maxHeartbeats 8000000 in
set_option maxRecDepth 100000 in
theorem bounds_window.calls (a0_0 : Int) (A0_1 : Option Addr) (c0_1 : Nat) (l0_1 : List Int) (a0_2 : ByteArray) (a0_3 : Int) (A0_4 : Option Addr) (c0_4 : Nat) (l0_4 : List (S93)) (a0_5 : Int) (a0_6 : Int) (a0_7 : Int) (A0_8 : Option Addr) (c0_8 : Nat) (l0_8 : List Int) (A0_9 : Option Addr) (c0_9 : Nat) (l0_9 : List Int) (a0_10 : Int) (a0_11 : Int) (a0_12 : Int) (A0_13 : Option Addr) (c0_13 : Nat) (l0_13 : List (S97)) (A0_14 : Option Addr) (c0_14 : Nat) (l0_14 : List (S99)) (A0_15 : Option Addr) (c0_15 : Nat) (l0_15 : List (S50)) (r : Bool) (w : World) (hr0_1 : Kd.C (Kd.int .i64) w A0_1 l0_1.length l0_1) (hc0_1 : l0_1.length ≤ c0_1) (hr0_4 : Kd.C k93 w A0_4 l0_4.length l0_4) (hc0_4 : l0_4.length ≤ c0_4) (hr0_8 : Kd.C (Kd.int .i64) w A0_8 l0_8.length l0_8) (hc0_8 : l0_8.length ≤ c0_8) (hr0_9 : Kd.C (Kd.int .i64) w A0_9 l0_9.length l0_9) (hc0_9 : l0_9.length ≤ c0_9) (hr0_13 : Kd.C k97 w A0_13 l0_13.length l0_13) (hc0_13 : l0_13.length ≤ c0_13) (hr0_14 : Kd.C k99 w A0_14 l0_14.length l0_14) (hc0_14 : l0_14.length ≤ c0_14) (hr0_15 : Kd.C k50 w A0_15 l0_15.length l0_15) (hc0_15 : l0_15.length ≤ c0_15) (h : bounds_window.f a0_0 l0_1 a0_2 a0_3 l0_4 a0_5 a0_6 a0_7 l0_8 l0_9 a0_10 a0_11 a0_12 l0_13 l0_14 l0_15 = some r) :
    Calls Try.prog 38 #[.agg #[.int .i64 a0_0, .slice A0_1 l0_1.length c0_1, .string a0_2, .int .i64 a0_3, .slice A0_4 l0_4.length c0_4, .int .i64 a0_5, .int .i64 a0_6, .int .i64 a0_7, .slice A0_8 l0_8.length c0_8, .slice A0_9 l0_9.length c0_9, .int .i64 a0_10, .int .i64 a0_11, .int .i64 a0_12, .slice A0_13 l0_13.length c0_13, .slice A0_14 l0_14.length c0_14, .slice A0_15 l0_15.length c0_15]] w fun e w' => e = .returned (.bool r) ∧ Below w.heap.size w w' := by
 have hu44 := Try.underlying44
 have HR0_1 := Aside0.mk hr0_1
 have HC0_1 := Aside0.mk hc0_1
 clear hr0_1 hc0_1
 have HR0_4 := Aside0.mk hr0_4
 have HC0_4 := Aside0.mk hc0_4
 clear hr0_4 hc0_4
 have HR0_8 := Aside0.mk hr0_8
 have HC0_8 := Aside0.mk hc0_8
 clear hr0_8 hc0_8
 have HR0_9 := Aside0.mk hr0_9
 have HC0_9 := Aside0.mk hc0_9
 clear hr0_9 hc0_9
 have HR0_13 := Aside0.mk hr0_13
 have HC0_13 := Aside0.mk hc0_13
 clear hr0_13 hc0_13
 have HR0_14 := Aside0.mk hr0_14
 have HC0_14 := Aside0.mk hc0_14
 clear hr0_14 hc0_14
 have HR0_15 := Aside0.mk hr0_15
 have HC0_15 := Aside0.mk hc0_15
 clear hr0_15 hc0_15
 have HB := Aside0.mk (Below.refl w.heap.size w)
 have H : (if a0_5 = 0 then ((bounds_sized.f a0_0 l0_1 a0_2 a0_3 l0_4 a0_5 a0_6 a0_7 l0_8 l0_9 a0_10 a0_11 a0_12 l0_13 l0_14 l0_15).bind fun t106 => (some t106)) else (if a0_5 = 1 then ((bounds_sized.f a0_0 l0_1 a0_2 a0_3 l0_4 a0_5 a0_6 a0_7 l0_8 l0_9 a0_10 a0_11 a0_12 l0_13 l0_14 l0_15).bind fun t107 => (if t107 = true then (if a0_7 > 0 then (if a0_7 = 0 then (none) else (some ((Int.tmod a0_6 a0_7) == 0))) else (some false)) else (some false))) else (if a0_5 = 2 then ((bounds_sized.f a0_0 l0_1 a0_2 a0_3 l0_4 a0_5 a0_6 a0_7 l0_8 l0_9 a0_10 a0_11 a0_12 l0_13 l0_14 l0_15).bind fun t108 => (if t108 = true then ((bounds_within.f a0_7 1 a0_6).bind fun t109 => (some t109)) else (some false))) else (some false)))) = some r := h
 clear h
 by_cases c2 : a0_5 = 0
 ·
  rw [if_pos c2] at H
  have c2b0 : (a0_5 == 0) = true := beq_iff_eq.mpr c2
  have c2b1 : (a0_5 != 0) = false := bne_eq_false_iff_eq.mpr c2
  clear c2
  replace H := Option.bind_eq_some_iff.mp H
  obtain ⟨t106, A30, H⟩ := H
  try dsimp only at H
  have A3 := Aside0.mk A30
  clear A30
  obtain rfl := Option.some.inj H
  go_enter Try.func38, Try.ntmps38
  go_wp2_with (first | ((with_reducible refine gate_dst (N := 1) rfl ?_); refine box_event ?hg (N := 1) ?hd (cs := (B44 a0_0 A0_1 l0_1 c0_1 a0_2 a0_3 A0_4 l0_4 c0_4 a0_5 a0_6 a0_7 A0_8 l0_8 c0_8 A0_9 l0_9 c0_9 a0_10 a0_11 a0_12 A0_13 l0_13 c0_13 A0_14 l0_14 c0_14 A0_15 l0_15 c0_15)) (t := 44) ?hr ?_; (case hd => rfl); (case hg => rfl); (case hr => first | (go_simp; done) | (go_simp; rfl)); intro gb105 hg w4 hbox hb; have BK105 := Aside0.mk (hbox); have GW105 := Aside0.mk ((by rw [hg]; exact below_sizeA : w.heap.size ≤ gb105)); have GE105 := GW105; replace HB := Aside0.mk (below_stepA hb); clear hb hbox hg; have hz5 := blk16 BK105.out) | ((with_reducible refine gate_callee (f := 41) rfl ?_); refine goesL_ (some 8) rfl rfl Try.func41 (by kernel_rfl) rfl #[.agg (B44 a0_0 A0_1 l0_1 c0_1 a0_2 a0_3 A0_4 l0_4 c0_4 a0_5 a0_6 a0_7 A0_8 l0_8 c0_8 A0_9 l0_9 c0_9 a0_10 a0_11 a0_12 A0_13 l0_13 c0_13 A0_14 l0_14 c0_14 A0_15 l0_15 c0_15)] rfl mapA ?_; (with_reducible refine (bounds_sized.calls a0_0 _ _ l0_1 a0_2 a0_3 _ _ l0_4 a0_5 a0_6 a0_7 _ _ l0_8 _ _ l0_9 a0_10 a0_11 a0_12 _ _ l0_13 _ _ l0_14 _ _ l0_15 t106 _ (c_belowA HR0_1.out) HC0_1.out (c_belowA HR0_4.out) HC0_4.out (c_belowA HR0_8.out) HC0_8.out (c_belowA HR0_9.out) HC0_9.out (c_belowA HR0_13.out) HC0_13.out (c_belowA HR0_14.out) HC0_14.out (c_belowA HR0_15.out) HC0_15.out A3.out).mono ?_); rintro e w6 ⟨rfl, hb⟩; refine ⟨_, rfl, ?_⟩; replace BK105 := Aside0.mk (blk_keepA BK105.out hb); replace HB := Aside0.mk (below_stepA hb); (try clear hb)))
  go_ret
  exact ⟨by first | rfl | (simp [errW_none, errW_some] <;> rfl) | (simp [*, errW_none, errW_some] <;> rfl), belowA⟩
 ·
  rw [if_neg c2] at H
  have c2b0 : (a0_5 == 0) = false := beq_eq_false_iff_ne.mpr c2
  have c2b1 : (a0_5 != 0) = true := bne_iff_ne.mpr c2
  by_cases c7 : a0_5 = 1
  ·
   rw [if_pos c7] at H
   have c7b0 : (a0_5 == 1) = true := beq_iff_eq.mpr c7
   have c7b1 : (a0_5 != 1) = false := bne_eq_false_iff_eq.mpr c7
   clear c7
   replace H := Option.bind_eq_some_iff.mp H
   obtain ⟨t107, A80, H⟩ := H
   try dsimp only at H
   have A8 := Aside0.mk A80
   clear A80
   by_cases c9 : t107 = true
   ·
    subst c9
    rw [if_pos rfl] at H
    by_cases c10 : a0_7 > 0
    ·
     rw [if_pos c10] at H
     have c10b0 : decide (0 < a0_7) = true := decide_eq_true c10
     clear c10
     by_cases c11 : a0_7 = 0
     case pos => rw [if_pos c11] at H; exact absurd H (by simp)
     rw [if_neg c11] at H
     have c11b0 : (a0_7 == 0) = false := beq_eq_false_iff_ne.mpr c11
     have c11b1 : (a0_7 != 0) = true := bne_iff_ne.mpr c11
     obtain rfl := Option.some.inj H
     go_enter Try.func38, Try.ntmps38
     go_wp2_with (first | ((with_reducible refine gate_dst (N := 1) rfl ?_); refine box_event ?hg (N := 1) ?hd (cs := (B44 a0_0 A0_1 l0_1 c0_1 a0_2 a0_3 A0_4 l0_4 c0_4 a0_5 a0_6 a0_7 A0_8 l0_8 c0_8 A0_9 l0_9 c0_9 a0_10 a0_11 a0_12 A0_13 l0_13 c0_13 A0_14 l0_14 c0_14 A0_15 l0_15 c0_15)) (t := 44) ?hr ?_; (case hd => rfl); (case hg => rfl); (case hr => first | (go_simp; done) | (go_simp; rfl)); intro gb105 hg w12 hbox hb; have BK105 := Aside0.mk (hbox); have GW105 := Aside0.mk ((by rw [hg]; exact below_sizeA : w.heap.size ≤ gb105)); have GE105 := GW105; replace HB := Aside0.mk (below_stepA hb); clear hb hbox hg; have hz13 := blk16 BK105.out) | ((with_reducible refine gate_callee (f := 41) rfl ?_); refine goesL_ (some 12) rfl rfl Try.func41 (by kernel_rfl) rfl #[.agg (B44 a0_0 A0_1 l0_1 c0_1 a0_2 a0_3 A0_4 l0_4 c0_4 a0_5 a0_6 a0_7 A0_8 l0_8 c0_8 A0_9 l0_9 c0_9 a0_10 a0_11 a0_12 A0_13 l0_13 c0_13 A0_14 l0_14 c0_14 A0_15 l0_15 c0_15)] rfl mapA ?_; (with_reducible refine (bounds_sized.calls a0_0 _ _ l0_1 a0_2 a0_3 _ _ l0_4 a0_5 a0_6 a0_7 _ _ l0_8 _ _ l0_9 a0_10 a0_11 a0_12 _ _ l0_13 _ _ l0_14 _ _ l0_15 true _ (c_belowA HR0_1.out) HC0_1.out (c_belowA HR0_4.out) HC0_4.out (c_belowA HR0_8.out) HC0_8.out (c_belowA HR0_9.out) HC0_9.out (c_belowA HR0_13.out) HC0_13.out (c_belowA HR0_14.out) HC0_14.out (c_belowA HR0_15.out) HC0_15.out A8.out).mono ?_); rintro e w14 ⟨rfl, hb⟩; refine ⟨_, rfl, ?_⟩; replace BK105 := Aside0.mk (blk_keepA BK105.out hb); replace HB := Aside0.mk (below_stepA hb); (try clear hb); have hz15 := blk16 BK105.out))
     go_ret
     exact ⟨by first | rfl | (simp [errW_none, errW_some] <;> rfl) | (simp [*, errW_none, errW_some] <;> rfl), belowA⟩
    ·
     rw [if_neg c10] at H
     have c10b0 : decide (0 < a0_7) = false := decide_eq_false c10
     clear c10
     obtain rfl := Option.some.inj H
     go_enter Try.func38, Try.ntmps38
     go_wp2_with (first | ((with_reducible refine gate_dst (N := 1) rfl ?_); refine box_event ?hg (N := 1) ?hd (cs := (B44 a0_0 A0_1 l0_1 c0_1 a0_2 a0_3 A0_4 l0_4 c0_4 a0_5 a0_6 a0_7 A0_8 l0_8 c0_8 A0_9 l0_9 c0_9 a0_10 a0_11 a0_12 A0_13 l0_13 c0_13 A0_14 l0_14 c0_14 A0_15 l0_15 c0_15)) (t := 44) ?hr ?_; (case hd => rfl); (case hg => rfl); (case hr => first | (go_simp; done) | (go_simp; rfl)); intro gb105 hg w16 hbox hb; have BK105 := Aside0.mk (hbox); have GW105 := Aside0.mk ((by rw [hg]; exact below_sizeA : w.heap.size ≤ gb105)); have GE105 := GW105; replace HB := Aside0.mk (below_stepA hb); clear hb hbox hg; have hz17 := blk16 BK105.out) | ((with_reducible refine gate_callee (f := 41) rfl ?_); refine goesL_ (some 12) rfl rfl Try.func41 (by kernel_rfl) rfl #[.agg (B44 a0_0 A0_1 l0_1 c0_1 a0_2 a0_3 A0_4 l0_4 c0_4 a0_5 a0_6 a0_7 A0_8 l0_8 c0_8 A0_9 l0_9 c0_9 a0_10 a0_11 a0_12 A0_13 l0_13 c0_13 A0_14 l0_14 c0_14 A0_15 l0_15 c0_15)] rfl mapA ?_; (with_reducible refine (bounds_sized.calls a0_0 _ _ l0_1 a0_2 a0_3 _ _ l0_4 a0_5 a0_6 a0_7 _ _ l0_8 _ _ l0_9 a0_10 a0_11 a0_12 _ _ l0_13 _ _ l0_14 _ _ l0_15 true _ (c_belowA HR0_1.out) HC0_1.out (c_belowA HR0_4.out) HC0_4.out (c_belowA HR0_8.out) HC0_8.out (c_belowA HR0_9.out) HC0_9.out (c_belowA HR0_13.out) HC0_13.out (c_belowA HR0_14.out) HC0_14.out (c_belowA HR0_15.out) HC0_15.out A8.out).mono ?_); rintro e w18 ⟨rfl, hb⟩; refine ⟨_, rfl, ?_⟩; replace BK105 := Aside0.mk (blk_keepA BK105.out hb); replace HB := Aside0.mk (below_stepA hb); (try clear hb); have hz19 := blk16 BK105.out))
     go_ret
     exact ⟨by first | rfl | (simp [errW_none, errW_some] <;> rfl) | (simp [*, errW_none, errW_some] <;> rfl), belowA⟩
   ·
    replace c9 := Bool.eq_false_iff.mpr c9
    subst c9
    rw [if_neg (show ¬ (false = true) by decide)] at H
    obtain rfl := Option.some.inj H
    go_enter Try.func38, Try.ntmps38
    go_wp2_with (first | ((with_reducible refine gate_dst (N := 1) rfl ?_); refine box_event ?hg (N := 1) ?hd (cs := (B44 a0_0 A0_1 l0_1 c0_1 a0_2 a0_3 A0_4 l0_4 c0_4 a0_5 a0_6 a0_7 A0_8 l0_8 c0_8 A0_9 l0_9 c0_9 a0_10 a0_11 a0_12 A0_13 l0_13 c0_13 A0_14 l0_14 c0_14 A0_15 l0_15 c0_15)) (t := 44) ?hr ?_; (case hd => rfl); (case hg => rfl); (case hr => first | (go_simp; done) | (go_simp; rfl)); intro gb105 hg w20 hbox hb; have BK105 := Aside0.mk (hbox); have GW105 := Aside0.mk ((by rw [hg]; exact below_sizeA : w.heap.size ≤ gb105)); have GE105 := GW105; replace HB := Aside0.mk (below_stepA hb); clear hb hbox hg; have hz21 := blk16 BK105.out) | ((with_reducible refine gate_callee (f := 41) rfl ?_); refine goesL_ (some 12) rfl rfl Try.func41 (by kernel_rfl) rfl #[.agg (B44 a0_0 A0_1 l0_1 c0_1 a0_2 a0_3 A0_4 l0_4 c0_4 a0_5 a0_6 a0_7 A0_8 l0_8 c0_8 A0_9 l0_9 c0_9 a0_10 a0_11 a0_12 A0_13 l0_13 c0_13 A0_14 l0_14 c0_14 A0_15 l0_15 c0_15)] rfl mapA ?_; (with_reducible refine (bounds_sized.calls a0_0 _ _ l0_1 a0_2 a0_3 _ _ l0_4 a0_5 a0_6 a0_7 _ _ l0_8 _ _ l0_9 a0_10 a0_11 a0_12 _ _ l0_13 _ _ l0_14 _ _ l0_15 false _ (c_belowA HR0_1.out) HC0_1.out (c_belowA HR0_4.out) HC0_4.out (c_belowA HR0_8.out) HC0_8.out (c_belowA HR0_9.out) HC0_9.out (c_belowA HR0_13.out) HC0_13.out (c_belowA HR0_14.out) HC0_14.out (c_belowA HR0_15.out) HC0_15.out A8.out).mono ?_); rintro e w22 ⟨rfl, hb⟩; refine ⟨_, rfl, ?_⟩; replace BK105 := Aside0.mk (blk_keepA BK105.out hb); replace HB := Aside0.mk (below_stepA hb); (try clear hb)))
    go_ret
    exact ⟨by first | rfl | (simp [errW_none, errW_some] <;> rfl) | (simp [*, errW_none, errW_some] <;> rfl), belowA⟩
  ·
   rw [if_neg c7] at H
   have c7b0 : (a0_5 == 1) = false := beq_eq_false_iff_ne.mpr c7
   have c7b1 : (a0_5 != 1) = true := bne_iff_ne.mpr c7
   by_cases c23 : a0_5 = 2
   ·
    rw [if_pos c23] at H
    have c23b0 : (a0_5 == 2) = true := beq_iff_eq.mpr c23
    have c23b1 : (a0_5 != 2) = false := bne_eq_false_iff_eq.mpr c23
    clear c23
    replace H := Option.bind_eq_some_iff.mp H
    obtain ⟨t108, A240, H⟩ := H
    try dsimp only at H
    have A24 := Aside0.mk A240
    clear A240
    by_cases c25 : t108 = true
    ·
     subst c25
     rw [if_pos rfl] at H
     replace H := Option.bind_eq_some_iff.mp H
     obtain ⟨t109, A260, H⟩ := H
     try dsimp only at H
     have A26 := Aside0.mk A260
     clear A260
     obtain rfl := Option.some.inj H
     go_enter Try.func38, Try.ntmps38
     go_wp2_with (first | ((with_reducible refine gate_dst (N := 1) rfl ?_); refine box_event ?hg (N := 1) ?hd (cs := (B44 a0_0 A0_1 l0_1 c0_1 a0_2 a0_3 A0_4 l0_4 c0_4 a0_5 a0_6 a0_7 A0_8 l0_8 c0_8 A0_9 l0_9 c0_9 a0_10 a0_11 a0_12 A0_13 l0_13 c0_13 A0_14 l0_14 c0_14 A0_15 l0_15 c0_15)) (t := 44) ?hr ?_; (case hd => rfl); (case hg => rfl); (case hr => first | (go_simp; done) | (go_simp; rfl)); intro gb105 hg w27 hbox hb; have BK105 := Aside0.mk (hbox); have GW105 := Aside0.mk ((by rw [hg]; exact below_sizeA : w.heap.size ≤ gb105)); have GE105 := GW105; replace HB := Aside0.mk (below_stepA hb); clear hb hbox hg; have hz28 := blk16 BK105.out) | ((with_reducible refine gate_callee (f := 41) rfl ?_); refine goesL_ (some 29) rfl rfl Try.func41 (by kernel_rfl) rfl #[.agg (B44 a0_0 A0_1 l0_1 c0_1 a0_2 a0_3 A0_4 l0_4 c0_4 a0_5 a0_6 a0_7 A0_8 l0_8 c0_8 A0_9 l0_9 c0_9 a0_10 a0_11 a0_12 A0_13 l0_13 c0_13 A0_14 l0_14 c0_14 A0_15 l0_15 c0_15)] rfl mapA ?_; (with_reducible refine (bounds_sized.calls a0_0 _ _ l0_1 a0_2 a0_3 _ _ l0_4 a0_5 a0_6 a0_7 _ _ l0_8 _ _ l0_9 a0_10 a0_11 a0_12 _ _ l0_13 _ _ l0_14 _ _ l0_15 true _ (c_belowA HR0_1.out) HC0_1.out (c_belowA HR0_4.out) HC0_4.out (c_belowA HR0_8.out) HC0_8.out (c_belowA HR0_9.out) HC0_9.out (c_belowA HR0_13.out) HC0_13.out (c_belowA HR0_14.out) HC0_14.out (c_belowA HR0_15.out) HC0_15.out A24.out).mono ?_); rintro e w29 ⟨rfl, hb⟩; refine ⟨_, rfl, ?_⟩; replace BK105 := Aside0.mk (blk_keepA BK105.out hb); replace HB := Aside0.mk (below_stepA hb); (try clear hb); have hz30 := blk16 BK105.out) | (go_at_call 28; (with_reducible refine (bounds_within.calls a0_7 1 a0_6 t109 _ A26.out).mono ?_); rintro e w' ⟨rfl, ⟨nd, rfl⟩⟩))
     go_ret
     exact ⟨by first | rfl | (simp [errW_none, errW_some] <;> rfl) | (simp [*, errW_none, errW_some] <;> rfl), belowA⟩
    ·
     replace c25 := Bool.eq_false_iff.mpr c25
     subst c25
     rw [if_neg (show ¬ (false = true) by decide)] at H
     obtain rfl := Option.some.inj H
     go_enter Try.func38, Try.ntmps38
     go_wp2_with (first | ((with_reducible refine gate_dst (N := 1) rfl ?_); refine box_event ?hg (N := 1) ?hd (cs := (B44 a0_0 A0_1 l0_1 c0_1 a0_2 a0_3 A0_4 l0_4 c0_4 a0_5 a0_6 a0_7 A0_8 l0_8 c0_8 A0_9 l0_9 c0_9 a0_10 a0_11 a0_12 A0_13 l0_13 c0_13 A0_14 l0_14 c0_14 A0_15 l0_15 c0_15)) (t := 44) ?hr ?_; (case hd => rfl); (case hg => rfl); (case hr => first | (go_simp; done) | (go_simp; rfl)); intro gb105 hg w31 hbox hb; have BK105 := Aside0.mk (hbox); have GW105 := Aside0.mk ((by rw [hg]; exact below_sizeA : w.heap.size ≤ gb105)); have GE105 := GW105; replace HB := Aside0.mk (below_stepA hb); clear hb hbox hg; have hz32 := blk16 BK105.out) | ((with_reducible refine gate_callee (f := 41) rfl ?_); refine goesL_ (some 29) rfl rfl Try.func41 (by kernel_rfl) rfl #[.agg (B44 a0_0 A0_1 l0_1 c0_1 a0_2 a0_3 A0_4 l0_4 c0_4 a0_5 a0_6 a0_7 A0_8 l0_8 c0_8 A0_9 l0_9 c0_9 a0_10 a0_11 a0_12 A0_13 l0_13 c0_13 A0_14 l0_14 c0_14 A0_15 l0_15 c0_15)] rfl mapA ?_; (with_reducible refine (bounds_sized.calls a0_0 _ _ l0_1 a0_2 a0_3 _ _ l0_4 a0_5 a0_6 a0_7 _ _ l0_8 _ _ l0_9 a0_10 a0_11 a0_12 _ _ l0_13 _ _ l0_14 _ _ l0_15 false _ (c_belowA HR0_1.out) HC0_1.out (c_belowA HR0_4.out) HC0_4.out (c_belowA HR0_8.out) HC0_8.out (c_belowA HR0_9.out) HC0_9.out (c_belowA HR0_13.out) HC0_13.out (c_belowA HR0_14.out) HC0_14.out (c_belowA HR0_15.out) HC0_15.out A24.out).mono ?_); rintro e w33 ⟨rfl, hb⟩; refine ⟨_, rfl, ?_⟩; replace BK105 := Aside0.mk (blk_keepA BK105.out hb); replace HB := Aside0.mk (below_stepA hb); (try clear hb)))
     go_ret
     exact ⟨by first | rfl | (simp [errW_none, errW_some] <;> rfl) | (simp [*, errW_none, errW_some] <;> rfl), belowA⟩
   ·
    rw [if_neg c23] at H
    have c23b0 : (a0_5 == 2) = false := beq_eq_false_iff_ne.mpr c23
    have c23b1 : (a0_5 != 2) = true := bne_iff_ne.mpr c23
    obtain rfl := Option.some.inj H
    go_enter Try.func38, Try.ntmps38
    go_wp2_with (first | ((with_reducible refine gate_dst (N := 1) rfl ?_); refine box_event ?hg (N := 1) ?hd (cs := (B44 a0_0 A0_1 l0_1 c0_1 a0_2 a0_3 A0_4 l0_4 c0_4 a0_5 a0_6 a0_7 A0_8 l0_8 c0_8 A0_9 l0_9 c0_9 a0_10 a0_11 a0_12 A0_13 l0_13 c0_13 A0_14 l0_14 c0_14 A0_15 l0_15 c0_15)) (t := 44) ?hr ?_; (case hd => rfl); (case hg => rfl); (case hr => first | (go_simp; done) | (go_simp; rfl)); intro gb105 hg w34 hbox hb; have BK105 := Aside0.mk (hbox); have GW105 := Aside0.mk ((by rw [hg]; exact below_sizeA : w.heap.size ≤ gb105)); have GE105 := GW105; replace HB := Aside0.mk (below_stepA hb); clear hb hbox hg; have hz35 := blk16 BK105.out))
    go_ret
    exact ⟨by first | rfl | (simp [errW_none, errW_some] <;> rfl) | (simp [*, errW_none, errW_some] <;> rfl), belowA⟩

def bounds_of_S1.f (a0_0 : Int) (l0_1 : List Int) (a0_2 : ByteArray) (a0_3 : Int) (l0_4 : List (S93)) (a0_5 : Int) (a0_6 : Int) (a0_7 : Int) (l0_8 : List Int) (l0_9 : List Int) (a0_10 : Int) (a0_11 : Int) (a0_12 : Int) (l0_13 : List (S97)) (l0_14 : List (S99)) (l0_15 : List (S50)) : Option (Bool) := (bounds_sized.f a0_0 l0_1 a0_2 a0_3 l0_4 a0_5 a0_6 a0_7 l0_8 l0_9 a0_10 a0_11 a0_12 l0_13 l0_14 l0_15).bind fun t112 => (if t112 = true then ((bounds_within.f a0_12 1 100).bind fun t113 => (some t113)) else (some false))
set_option maxHeartbeats 8000000 in
set_option maxRecDepth 100000 in
theorem bounds_of_S1.calls (a0_0 : Int) (A0_1 : Option Addr) (c0_1 : Nat) (l0_1 : List Int) (a0_2 : ByteArray) (a0_3 : Int) (A0_4 : Option Addr) (c0_4 : Nat) (l0_4 : List (S93)) (a0_5 : Int) (a0_6 : Int) (a0_7 : Int) (A0_8 : Option Addr) (c0_8 : Nat) (l0_8 : List Int) (A0_9 : Option Addr) (c0_9 : Nat) (l0_9 : List Int) (a0_10 : Int) (a0_11 : Int) (a0_12 : Int) (A0_13 : Option Addr) (c0_13 : Nat) (l0_13 : List (S97)) (A0_14 : Option Addr) (c0_14 : Nat) (l0_14 : List (S99)) (A0_15 : Option Addr) (c0_15 : Nat) (l0_15 : List (S50)) (r : Bool) (w : World) (hr0_1 : Kd.C (Kd.int .i64) w A0_1 l0_1.length l0_1) (hc0_1 : l0_1.length ≤ c0_1) (hr0_4 : Kd.C k93 w A0_4 l0_4.length l0_4) (hc0_4 : l0_4.length ≤ c0_4) (hr0_8 : Kd.C (Kd.int .i64) w A0_8 l0_8.length l0_8) (hc0_8 : l0_8.length ≤ c0_8) (hr0_9 : Kd.C (Kd.int .i64) w A0_9 l0_9.length l0_9) (hc0_9 : l0_9.length ≤ c0_9) (hr0_13 : Kd.C k97 w A0_13 l0_13.length l0_13) (hc0_13 : l0_13.length ≤ c0_13) (hr0_14 : Kd.C k99 w A0_14 l0_14.length l0_14) (hc0_14 : l0_14.length ≤ c0_14) (hr0_15 : Kd.C k50 w A0_15 l0_15.length l0_15) (hc0_15 : l0_15.length ≤ c0_15) (h : bounds_of_S1.f a0_0 l0_1 a0_2 a0_3 l0_4 a0_5 a0_6 a0_7 l0_8 l0_9 a0_10 a0_11 a0_12 l0_13 l0_14 l0_15 = some r) :
    Calls Try.prog 40 #[.agg #[.int .i64 a0_0, .slice A0_1 l0_1.length c0_1, .string a0_2, .int .i64 a0_3, .slice A0_4 l0_4.length c0_4, .int .i64 a0_5, .int .i64 a0_6, .int .i64 a0_7, .slice A0_8 l0_8.length c0_8, .slice A0_9 l0_9.length c0_9, .int .i64 a0_10, .int .i64 a0_11, .int .i64 a0_12, .slice A0_13 l0_13.length c0_13, .slice A0_14 l0_14.length c0_14, .slice A0_15 l0_15.length c0_15]] w fun e w' => e = .returned (.bool r) ∧ Below w.heap.size w w' := by
 have hu44 := Try.underlying44
 have HR0_1 := Aside0.mk hr0_1
 have HC0_1 := Aside0.mk hc0_1
 clear hr0_1 hc0_1
 have HR0_4 := Aside0.mk hr0_4
 have HC0_4 := Aside0.mk hc0_4
 clear hr0_4 hc0_4
 have HR0_8 := Aside0.mk hr0_8
 have HC0_8 := Aside0.mk hc0_8
 clear hr0_8 hc0_8
 have HR0_9 := Aside0.mk hr0_9
 have HC0_9 := Aside0.mk hc0_9
 clear hr0_9 hc0_9
 have HR0_13 := Aside0.mk hr0_13
 have HC0_13 := Aside0.mk hc0_13
 clear hr0_13 hc0_13
 have HR0_14 := Aside0.mk hr0_14
 have HC0_14 := Aside0.mk hc0_14
 clear hr0_14 hc0_14
 have HR0_15 := Aside0.mk hr0_15
 have HC0_15 := Aside0.mk hc0_15
 clear hr0_15 hc0_15
 have HB := Aside0.mk (Below.refl w.heap.size w)
 have H : ((bounds_sized.f a0_0 l0_1 a0_2 a0_3 l0_4 a0_5 a0_6 a0_7 l0_8 l0_9 a0_10 a0_11 a0_12 l0_13 l0_14 l0_15).bind fun t112 => (if t112 = true then ((bounds_within.f a0_12 1 100).bind fun t113 => (some t113)) else (some false))) = some r := h
 clear h
 replace H := Option.bind_eq_some_iff.mp H
 obtain ⟨t112, A20, H⟩ := H
 try dsimp only at H
 have A2 := Aside0.mk A20
 clear A20
 by_cases c3 : t112 = true
 ·
  subst c3
  rw [if_pos rfl] at H
  replace H := Option.bind_eq_some_iff.mp H
  obtain ⟨t113, A40, H⟩ := H
  try dsimp only at H
  have A4 := Aside0.mk A40
  clear A40
  obtain rfl := Option.some.inj H
  go_enter Try.func40, Try.ntmps40
  go_wp2_with (first | ((with_reducible refine gate_dst (N := 1) rfl ?_); refine box_event ?hg (N := 1) ?hd (cs := (B44 a0_0 A0_1 l0_1 c0_1 a0_2 a0_3 A0_4 l0_4 c0_4 a0_5 a0_6 a0_7 A0_8 l0_8 c0_8 A0_9 l0_9 c0_9 a0_10 a0_11 a0_12 A0_13 l0_13 c0_13 A0_14 l0_14 c0_14 A0_15 l0_15 c0_15)) (t := 44) ?hr ?_; (case hd => rfl); (case hg => rfl); (case hr => first | (go_simp; done) | (go_simp; rfl)); intro gb111 hg w5 hbox hb; have BK111 := Aside0.mk (hbox); have GW111 := Aside0.mk ((by rw [hg]; exact below_sizeA : w.heap.size ≤ gb111)); have GE111 := GW111; replace HB := Aside0.mk (below_stepA hb); clear hb hbox hg; have hz6 := blk16 BK111.out) | ((with_reducible refine gate_callee (f := 41) rfl ?_); refine goesL_ (some 4) rfl rfl Try.func41 (by kernel_rfl) rfl #[.agg (B44 a0_0 A0_1 l0_1 c0_1 a0_2 a0_3 A0_4 l0_4 c0_4 a0_5 a0_6 a0_7 A0_8 l0_8 c0_8 A0_9 l0_9 c0_9 a0_10 a0_11 a0_12 A0_13 l0_13 c0_13 A0_14 l0_14 c0_14 A0_15 l0_15 c0_15)] rfl mapA ?_; (with_reducible refine (bounds_sized.calls a0_0 _ _ l0_1 a0_2 a0_3 _ _ l0_4 a0_5 a0_6 a0_7 _ _ l0_8 _ _ l0_9 a0_10 a0_11 a0_12 _ _ l0_13 _ _ l0_14 _ _ l0_15 true _ (c_belowA HR0_1.out) HC0_1.out (c_belowA HR0_4.out) HC0_4.out (c_belowA HR0_8.out) HC0_8.out (c_belowA HR0_9.out) HC0_9.out (c_belowA HR0_13.out) HC0_13.out (c_belowA HR0_14.out) HC0_14.out (c_belowA HR0_15.out) HC0_15.out A2.out).mono ?_); rintro e w7 ⟨rfl, hb⟩; refine ⟨_, rfl, ?_⟩; replace BK111 := Aside0.mk (blk_keepA BK111.out hb); replace HB := Aside0.mk (below_stepA hb); (try clear hb); have hz8 := blk16 BK111.out) | (go_at_call 28; (with_reducible refine (bounds_within.calls a0_12 1 100 t113 _ A4.out).mono ?_); rintro e w' ⟨rfl, ⟨nd, rfl⟩⟩))
  go_ret
  exact ⟨by first | rfl | (simp [errW_none, errW_some] <;> rfl) | (simp [*, errW_none, errW_some] <;> rfl), belowA⟩
 ·
  replace c3 := Bool.eq_false_iff.mpr c3
  subst c3
  rw [if_neg (show ¬ (false = true) by decide)] at H
  obtain rfl := Option.some.inj H
  go_enter Try.func40, Try.ntmps40
  go_wp2_with (first | ((with_reducible refine gate_dst (N := 1) rfl ?_); refine box_event ?hg (N := 1) ?hd (cs := (B44 a0_0 A0_1 l0_1 c0_1 a0_2 a0_3 A0_4 l0_4 c0_4 a0_5 a0_6 a0_7 A0_8 l0_8 c0_8 A0_9 l0_9 c0_9 a0_10 a0_11 a0_12 A0_13 l0_13 c0_13 A0_14 l0_14 c0_14 A0_15 l0_15 c0_15)) (t := 44) ?hr ?_; (case hd => rfl); (case hg => rfl); (case hr => first | (go_simp; done) | (go_simp; rfl)); intro gb111 hg w9 hbox hb; have BK111 := Aside0.mk (hbox); have GW111 := Aside0.mk ((by rw [hg]; exact below_sizeA : w.heap.size ≤ gb111)); have GE111 := GW111; replace HB := Aside0.mk (below_stepA hb); clear hb hbox hg; have hz10 := blk16 BK111.out) | ((with_reducible refine gate_callee (f := 41) rfl ?_); refine goesL_ (some 4) rfl rfl Try.func41 (by kernel_rfl) rfl #[.agg (B44 a0_0 A0_1 l0_1 c0_1 a0_2 a0_3 A0_4 l0_4 c0_4 a0_5 a0_6 a0_7 A0_8 l0_8 c0_8 A0_9 l0_9 c0_9 a0_10 a0_11 a0_12 A0_13 l0_13 c0_13 A0_14 l0_14 c0_14 A0_15 l0_15 c0_15)] rfl mapA ?_; (with_reducible refine (bounds_sized.calls a0_0 _ _ l0_1 a0_2 a0_3 _ _ l0_4 a0_5 a0_6 a0_7 _ _ l0_8 _ _ l0_9 a0_10 a0_11 a0_12 _ _ l0_13 _ _ l0_14 _ _ l0_15 false _ (c_belowA HR0_1.out) HC0_1.out (c_belowA HR0_4.out) HC0_4.out (c_belowA HR0_8.out) HC0_8.out (c_belowA HR0_9.out) HC0_9.out (c_belowA HR0_13.out) HC0_13.out (c_belowA HR0_14.out) HC0_14.out (c_belowA HR0_15.out) HC0_15.out A2.out).mono ?_); rintro e w11 ⟨rfl, hb⟩; refine ⟨_, rfl, ?_⟩; replace BK111 := Aside0.mk (blk_keepA BK111.out hb); replace HB := Aside0.mk (below_stepA hb); (try clear hb)))
  go_ret
  exact ⟨by first | rfl | (simp [errW_none, errW_some] <;> rfl) | (simp [*, errW_none, errW_some] <;> rfl), belowA⟩

def bounds_of_S2.f (a0_0 : Int) (l0_1 : List Int) (a0_2 : ByteArray) (a0_3 : Int) (l0_4 : List (S93)) (a0_5 : Int) (a0_6 : Int) (a0_7 : Int) (l0_8 : List Int) (l0_9 : List Int) (a0_10 : Int) (a0_11 : Int) (a0_12 : Int) (l0_13 : List (S97)) (l0_14 : List (S99)) (l0_15 : List (S50)) : Option (Bool) := (bounds_within.f a0_10 0 10000).bind fun t115 => (if t115 = true then ((bounds_within.f a0_11 0 10000).bind fun t116 => (some t116)) else (some false))
set_option maxHeartbeats 8000000 in
set_option maxRecDepth 100000 in
theorem bounds_of_S2.calls (a0_0 : Int) (A0_1 : Option Addr) (c0_1 : Nat) (l0_1 : List Int) (a0_2 : ByteArray) (a0_3 : Int) (A0_4 : Option Addr) (c0_4 : Nat) (l0_4 : List (S93)) (a0_5 : Int) (a0_6 : Int) (a0_7 : Int) (A0_8 : Option Addr) (c0_8 : Nat) (l0_8 : List Int) (A0_9 : Option Addr) (c0_9 : Nat) (l0_9 : List Int) (a0_10 : Int) (a0_11 : Int) (a0_12 : Int) (A0_13 : Option Addr) (c0_13 : Nat) (l0_13 : List (S97)) (A0_14 : Option Addr) (c0_14 : Nat) (l0_14 : List (S99)) (A0_15 : Option Addr) (c0_15 : Nat) (l0_15 : List (S50)) (r : Bool) (w : World) (hr0_1 : Kd.C (Kd.int .i64) w A0_1 l0_1.length l0_1) (hc0_1 : l0_1.length ≤ c0_1) (hr0_4 : Kd.C k93 w A0_4 l0_4.length l0_4) (hc0_4 : l0_4.length ≤ c0_4) (hr0_8 : Kd.C (Kd.int .i64) w A0_8 l0_8.length l0_8) (hc0_8 : l0_8.length ≤ c0_8) (hr0_9 : Kd.C (Kd.int .i64) w A0_9 l0_9.length l0_9) (hc0_9 : l0_9.length ≤ c0_9) (hr0_13 : Kd.C k97 w A0_13 l0_13.length l0_13) (hc0_13 : l0_13.length ≤ c0_13) (hr0_14 : Kd.C k99 w A0_14 l0_14.length l0_14) (hc0_14 : l0_14.length ≤ c0_14) (hr0_15 : Kd.C k50 w A0_15 l0_15.length l0_15) (hc0_15 : l0_15.length ≤ c0_15) (h : bounds_of_S2.f a0_0 l0_1 a0_2 a0_3 l0_4 a0_5 a0_6 a0_7 l0_8 l0_9 a0_10 a0_11 a0_12 l0_13 l0_14 l0_15 = some r) :
    Calls Try.prog 42 #[.agg #[.int .i64 a0_0, .slice A0_1 l0_1.length c0_1, .string a0_2, .int .i64 a0_3, .slice A0_4 l0_4.length c0_4, .int .i64 a0_5, .int .i64 a0_6, .int .i64 a0_7, .slice A0_8 l0_8.length c0_8, .slice A0_9 l0_9.length c0_9, .int .i64 a0_10, .int .i64 a0_11, .int .i64 a0_12, .slice A0_13 l0_13.length c0_13, .slice A0_14 l0_14.length c0_14, .slice A0_15 l0_15.length c0_15]] w fun e w' => e = .returned (.bool r) ∧ Below w.heap.size w w' := by
 have hu44 := Try.underlying44
 have HR0_1 := Aside0.mk hr0_1
 have HC0_1 := Aside0.mk hc0_1
 clear hr0_1 hc0_1
 have HR0_4 := Aside0.mk hr0_4
 have HC0_4 := Aside0.mk hc0_4
 clear hr0_4 hc0_4
 have HR0_8 := Aside0.mk hr0_8
 have HC0_8 := Aside0.mk hc0_8
 clear hr0_8 hc0_8
 have HR0_9 := Aside0.mk hr0_9
 have HC0_9 := Aside0.mk hc0_9
 clear hr0_9 hc0_9
 have HR0_13 := Aside0.mk hr0_13
 have HC0_13 := Aside0.mk hc0_13
 clear hr0_13 hc0_13
 have HR0_14 := Aside0.mk hr0_14
 have HC0_14 := Aside0.mk hc0_14
 clear hr0_14 hc0_14
 have HR0_15 := Aside0.mk hr0_15
 have HC0_15 := Aside0.mk hc0_15
 clear hr0_15 hc0_15
 have HB := Aside0.mk (Below.refl w.heap.size w)
 have H : ((bounds_within.f a0_10 0 10000).bind fun t115 => (if t115 = true then ((bounds_within.f a0_11 0 10000).bind fun t116 => (some t116)) else (some false))) = some r := h
 clear h
 replace H := Option.bind_eq_some_iff.mp H
 obtain ⟨t115, A20, H⟩ := H
 try dsimp only at H
 have A2 := Aside0.mk A20
 clear A20
 by_cases c3 : t115 = true
 ·
  subst c3
  rw [if_pos rfl] at H
  replace H := Option.bind_eq_some_iff.mp H
  obtain ⟨t116, A40, H⟩ := H
  try dsimp only at H
  have A4 := Aside0.mk A40
  clear A40
  obtain rfl := Option.some.inj H
  go_enter Try.func42, Try.ntmps42
  go_wp2_with (first | ((with_reducible refine gate_dst (N := 1) rfl ?_); refine box_event ?hg (N := 1) ?hd (cs := (B44 a0_0 A0_1 l0_1 c0_1 a0_2 a0_3 A0_4 l0_4 c0_4 a0_5 a0_6 a0_7 A0_8 l0_8 c0_8 A0_9 l0_9 c0_9 a0_10 a0_11 a0_12 A0_13 l0_13 c0_13 A0_14 l0_14 c0_14 A0_15 l0_15 c0_15)) (t := 44) ?hr ?_; (case hd => rfl); (case hg => rfl); (case hr => first | (go_simp; done) | (go_simp; rfl)); intro gb114 hg w5 hbox hb; have BK114 := Aside0.mk (hbox); have GW114 := Aside0.mk ((by rw [hg]; exact below_sizeA : w.heap.size ≤ gb114)); have GE114 := GW114; replace HB := Aside0.mk (below_stepA hb); clear hb hbox hg; have hz6 := blk16 BK114.out) | ((with_reducible refine gate_callee (f := 28) rfl ?_); refine goesL_ (some 5) rfl rfl Try.func28 (by kernel_rfl) rfl #[.int .i64 a0_10, .int .i64 0, .int .i64 10000] rfl mapA ?_; (with_reducible refine (bounds_within.calls a0_10 0 10000 true _ A2.out).mono ?_); rintro e w' ⟨rfl, ⟨nd, rfl⟩⟩; refine ⟨_, rfl, ?_⟩) | (go_at_call 28; (with_reducible refine (bounds_within.calls a0_11 0 10000 t116 _ A4.out).mono ?_); rintro e w' ⟨rfl, ⟨nd, rfl⟩⟩))
  go_ret
  exact ⟨by first | rfl | (simp [errW_none, errW_some] <;> rfl) | (simp [*, errW_none, errW_some] <;> rfl), belowA⟩
 ·
  replace c3 := Bool.eq_false_iff.mpr c3
  subst c3
  rw [if_neg (show ¬ (false = true) by decide)] at H
  obtain rfl := Option.some.inj H
  go_enter Try.func42, Try.ntmps42
  go_wp2_with (first | ((with_reducible refine gate_dst (N := 1) rfl ?_); refine box_event ?hg (N := 1) ?hd (cs := (B44 a0_0 A0_1 l0_1 c0_1 a0_2 a0_3 A0_4 l0_4 c0_4 a0_5 a0_6 a0_7 A0_8 l0_8 c0_8 A0_9 l0_9 c0_9 a0_10 a0_11 a0_12 A0_13 l0_13 c0_13 A0_14 l0_14 c0_14 A0_15 l0_15 c0_15)) (t := 44) ?hr ?_; (case hd => rfl); (case hg => rfl); (case hr => first | (go_simp; done) | (go_simp; rfl)); intro gb114 hg w7 hbox hb; have BK114 := Aside0.mk (hbox); have GW114 := Aside0.mk ((by rw [hg]; exact below_sizeA : w.heap.size ≤ gb114)); have GE114 := GW114; replace HB := Aside0.mk (below_stepA hb); clear hb hbox hg; have hz8 := blk16 BK114.out) | ((with_reducible refine gate_callee (f := 28) rfl ?_); refine goesL_ (some 5) rfl rfl Try.func28 (by kernel_rfl) rfl #[.int .i64 a0_10, .int .i64 0, .int .i64 10000] rfl mapA ?_; (with_reducible refine (bounds_within.calls a0_10 0 10000 false _ A2.out).mono ?_); rintro e w' ⟨rfl, ⟨nd, rfl⟩⟩; refine ⟨_, rfl, ?_⟩))
  go_ret
  exact ⟨by first | rfl | (simp [errW_none, errW_some] <;> rfl) | (simp [*, errW_none, errW_some] <;> rfl), belowA⟩

def bounds_of_S4.f (a0_0 : Int) (l0_1 : List Int) (a0_2 : ByteArray) (a0_3 : Int) (l0_4 : List (S93)) (a0_5 : Int) (a0_6 : Int) (a0_7 : Int) (l0_8 : List Int) (l0_9 : List Int) (a0_10 : Int) (a0_11 : Int) (a0_12 : Int) (l0_13 : List (S97)) (l0_14 : List (S99)) (l0_15 : List (S50)) : Option (Bool) := (bounds_within.f a0_12 1 10000).bind fun t119 => (some t119)
set_option maxHeartbeats 8000000 in
set_option maxRecDepth 100000 in
theorem bounds_of_S4.calls (a0_0 : Int) (A0_1 : Option Addr) (c0_1 : Nat) (l0_1 : List Int) (a0_2 : ByteArray) (a0_3 : Int) (A0_4 : Option Addr) (c0_4 : Nat) (l0_4 : List (S93)) (a0_5 : Int) (a0_6 : Int) (a0_7 : Int) (A0_8 : Option Addr) (c0_8 : Nat) (l0_8 : List Int) (A0_9 : Option Addr) (c0_9 : Nat) (l0_9 : List Int) (a0_10 : Int) (a0_11 : Int) (a0_12 : Int) (A0_13 : Option Addr) (c0_13 : Nat) (l0_13 : List (S97)) (A0_14 : Option Addr) (c0_14 : Nat) (l0_14 : List (S99)) (A0_15 : Option Addr) (c0_15 : Nat) (l0_15 : List (S50)) (r : Bool) (w : World) (hr0_1 : Kd.C (Kd.int .i64) w A0_1 l0_1.length l0_1) (hc0_1 : l0_1.length ≤ c0_1) (hr0_4 : Kd.C k93 w A0_4 l0_4.length l0_4) (hc0_4 : l0_4.length ≤ c0_4) (hr0_8 : Kd.C (Kd.int .i64) w A0_8 l0_8.length l0_8) (hc0_8 : l0_8.length ≤ c0_8) (hr0_9 : Kd.C (Kd.int .i64) w A0_9 l0_9.length l0_9) (hc0_9 : l0_9.length ≤ c0_9) (hr0_13 : Kd.C k97 w A0_13 l0_13.length l0_13) (hc0_13 : l0_13.length ≤ c0_13) (hr0_14 : Kd.C k99 w A0_14 l0_14.length l0_14) (hc0_14 : l0_14.length ≤ c0_14) (hr0_15 : Kd.C k50 w A0_15 l0_15.length l0_15) (hc0_15 : l0_15.length ≤ c0_15) (h : bounds_of_S4.f a0_0 l0_1 a0_2 a0_3 l0_4 a0_5 a0_6 a0_7 l0_8 l0_9 a0_10 a0_11 a0_12 l0_13 l0_14 l0_15 = some r) :
    Calls Try.prog 44 #[.agg #[.int .i64 a0_0, .slice A0_1 l0_1.length c0_1, .string a0_2, .int .i64 a0_3, .slice A0_4 l0_4.length c0_4, .int .i64 a0_5, .int .i64 a0_6, .int .i64 a0_7, .slice A0_8 l0_8.length c0_8, .slice A0_9 l0_9.length c0_9, .int .i64 a0_10, .int .i64 a0_11, .int .i64 a0_12, .slice A0_13 l0_13.length c0_13, .slice A0_14 l0_14.length c0_14, .slice A0_15 l0_15.length c0_15]] w fun e w' => e = .returned (.bool r) ∧ Below w.heap.size w w' := by
 have hu44 := Try.underlying44
 have HR0_1 := Aside0.mk hr0_1
 have HC0_1 := Aside0.mk hc0_1
 clear hr0_1 hc0_1
 have HR0_4 := Aside0.mk hr0_4
 have HC0_4 := Aside0.mk hc0_4
 clear hr0_4 hc0_4
 have HR0_8 := Aside0.mk hr0_8
 have HC0_8 := Aside0.mk hc0_8
 clear hr0_8 hc0_8
 have HR0_9 := Aside0.mk hr0_9
 have HC0_9 := Aside0.mk hc0_9
 clear hr0_9 hc0_9
 have HR0_13 := Aside0.mk hr0_13
 have HC0_13 := Aside0.mk hc0_13
 clear hr0_13 hc0_13
 have HR0_14 := Aside0.mk hr0_14
 have HC0_14 := Aside0.mk hc0_14
 clear hr0_14 hc0_14
 have HR0_15 := Aside0.mk hr0_15
 have HC0_15 := Aside0.mk hc0_15
 clear hr0_15 hc0_15
 have HB := Aside0.mk (Below.refl w.heap.size w)
 have H : ((bounds_within.f a0_12 1 10000).bind fun t119 => (some t119)) = some r := h
 clear h
 replace H := Option.bind_eq_some_iff.mp H
 obtain ⟨t119, A20, H⟩ := H
 try dsimp only at H
 have A2 := Aside0.mk A20
 clear A20
 obtain rfl := Option.some.inj H
 go_enter Try.func44, Try.ntmps44
 go_wp2_with (first | ((with_reducible refine gate_dst (N := 1) rfl ?_); refine box_event ?hg (N := 1) ?hd (cs := (B44 a0_0 A0_1 l0_1 c0_1 a0_2 a0_3 A0_4 l0_4 c0_4 a0_5 a0_6 a0_7 A0_8 l0_8 c0_8 A0_9 l0_9 c0_9 a0_10 a0_11 a0_12 A0_13 l0_13 c0_13 A0_14 l0_14 c0_14 A0_15 l0_15 c0_15)) (t := 44) ?hr ?_; (case hd => rfl); (case hg => rfl); (case hr => first | (go_simp; done) | (go_simp; rfl)); intro gb118 hg w3 hbox hb; have BK118 := Aside0.mk (hbox); have GW118 := Aside0.mk ((by rw [hg]; exact below_sizeA : w.heap.size ≤ gb118)); have GE118 := GW118; replace HB := Aside0.mk (below_stepA hb); clear hb hbox hg; have hz4 := blk16 BK118.out) | ((with_reducible refine gate_callee (f := 28) rfl ?_); refine goesL_ (some 5) rfl rfl Try.func28 (by kernel_rfl) rfl #[.int .i64 a0_12, .int .i64 1, .int .i64 10000] rfl mapA ?_; (with_reducible refine (bounds_within.calls a0_12 1 10000 t119 _ A2.out).mono ?_); rintro e w' ⟨rfl, ⟨nd, rfl⟩⟩; refine ⟨_, rfl, ?_⟩))
 go_ret
 exact ⟨by first | rfl | (simp [errW_none, errW_some] <;> rfl) | (simp [*, errW_none, errW_some] <;> rfl), belowA⟩

def bounds_of_S6.f (a0_0 : Int) (l0_1 : List Int) (a0_2 : ByteArray) (a0_3 : Int) (l0_4 : List (S93)) (a0_5 : Int) (a0_6 : Int) (a0_7 : Int) (l0_8 : List Int) (l0_9 : List Int) (a0_10 : Int) (a0_11 : Int) (a0_12 : Int) (l0_13 : List (S97)) (l0_14 : List (S99)) (l0_15 : List (S50)) : Option (Bool) := (bounds_sized.f a0_0 l0_1 a0_2 a0_3 l0_4 a0_5 a0_6 a0_7 l0_8 l0_9 a0_10 a0_11 a0_12 l0_13 l0_14 l0_15).bind fun t122 => (if t122 = true then ((bounds_within.f (l0_14.length : Int) 1 8).bind fun t123 => (some t123)) else (some false))
set_option maxHeartbeats 8000000 in
set_option maxRecDepth 100000 in
theorem bounds_of_S6.calls (a0_0 : Int) (A0_1 : Option Addr) (c0_1 : Nat) (l0_1 : List Int) (a0_2 : ByteArray) (a0_3 : Int) (A0_4 : Option Addr) (c0_4 : Nat) (l0_4 : List (S93)) (a0_5 : Int) (a0_6 : Int) (a0_7 : Int) (A0_8 : Option Addr) (c0_8 : Nat) (l0_8 : List Int) (A0_9 : Option Addr) (c0_9 : Nat) (l0_9 : List Int) (a0_10 : Int) (a0_11 : Int) (a0_12 : Int) (A0_13 : Option Addr) (c0_13 : Nat) (l0_13 : List (S97)) (A0_14 : Option Addr) (c0_14 : Nat) (l0_14 : List (S99)) (A0_15 : Option Addr) (c0_15 : Nat) (l0_15 : List (S50)) (r : Bool) (w : World) (hr0_1 : Kd.C (Kd.int .i64) w A0_1 l0_1.length l0_1) (hc0_1 : l0_1.length ≤ c0_1) (hr0_4 : Kd.C k93 w A0_4 l0_4.length l0_4) (hc0_4 : l0_4.length ≤ c0_4) (hr0_8 : Kd.C (Kd.int .i64) w A0_8 l0_8.length l0_8) (hc0_8 : l0_8.length ≤ c0_8) (hr0_9 : Kd.C (Kd.int .i64) w A0_9 l0_9.length l0_9) (hc0_9 : l0_9.length ≤ c0_9) (hr0_13 : Kd.C k97 w A0_13 l0_13.length l0_13) (hc0_13 : l0_13.length ≤ c0_13) (hr0_14 : Kd.C k99 w A0_14 l0_14.length l0_14) (hc0_14 : l0_14.length ≤ c0_14) (hr0_15 : Kd.C k50 w A0_15 l0_15.length l0_15) (hc0_15 : l0_15.length ≤ c0_15) (h : bounds_of_S6.f a0_0 l0_1 a0_2 a0_3 l0_4 a0_5 a0_6 a0_7 l0_8 l0_9 a0_10 a0_11 a0_12 l0_13 l0_14 l0_15 = some r) :
    Calls Try.prog 46 #[.agg #[.int .i64 a0_0, .slice A0_1 l0_1.length c0_1, .string a0_2, .int .i64 a0_3, .slice A0_4 l0_4.length c0_4, .int .i64 a0_5, .int .i64 a0_6, .int .i64 a0_7, .slice A0_8 l0_8.length c0_8, .slice A0_9 l0_9.length c0_9, .int .i64 a0_10, .int .i64 a0_11, .int .i64 a0_12, .slice A0_13 l0_13.length c0_13, .slice A0_14 l0_14.length c0_14, .slice A0_15 l0_15.length c0_15]] w fun e w' => e = .returned (.bool r) ∧ Below w.heap.size w w' := by
 have hu44 := Try.underlying44
 have HR0_1 := Aside0.mk hr0_1
 have HC0_1 := Aside0.mk hc0_1
 clear hr0_1 hc0_1
 have HR0_4 := Aside0.mk hr0_4
 have HC0_4 := Aside0.mk hc0_4
 clear hr0_4 hc0_4
 have HR0_8 := Aside0.mk hr0_8
 have HC0_8 := Aside0.mk hc0_8
 clear hr0_8 hc0_8
 have HR0_9 := Aside0.mk hr0_9
 have HC0_9 := Aside0.mk hc0_9
 clear hr0_9 hc0_9
 have HR0_13 := Aside0.mk hr0_13
 have HC0_13 := Aside0.mk hc0_13
 clear hr0_13 hc0_13
 have HR0_14 := Aside0.mk hr0_14
 have HC0_14 := Aside0.mk hc0_14
 clear hr0_14 hc0_14
 have HR0_15 := Aside0.mk hr0_15
 have HC0_15 := Aside0.mk hc0_15
 clear hr0_15 hc0_15
 have HB := Aside0.mk (Below.refl w.heap.size w)
 have H : ((bounds_sized.f a0_0 l0_1 a0_2 a0_3 l0_4 a0_5 a0_6 a0_7 l0_8 l0_9 a0_10 a0_11 a0_12 l0_13 l0_14 l0_15).bind fun t122 => (if t122 = true then ((bounds_within.f (l0_14.length : Int) 1 8).bind fun t123 => (some t123)) else (some false))) = some r := h
 clear h
 replace H := Option.bind_eq_some_iff.mp H
 obtain ⟨t122, A20, H⟩ := H
 try dsimp only at H
 have A2 := Aside0.mk A20
 clear A20
 by_cases c3 : t122 = true
 ·
  subst c3
  rw [if_pos rfl] at H
  replace H := Option.bind_eq_some_iff.mp H
  obtain ⟨t123, A40, H⟩ := H
  try dsimp only at H
  have A4 := Aside0.mk A40
  clear A40
  obtain rfl := Option.some.inj H
  go_enter Try.func46, Try.ntmps46
  go_wp2_with (first | ((with_reducible refine gate_dst (N := 1) rfl ?_); (try (refine gate_guard (by rfl) ?_; dsimp only)); refine box_event ?hg (N := 1) ?hd (cs := (B44 a0_0 A0_1 l0_1 c0_1 a0_2 a0_3 A0_4 l0_4 c0_4 a0_5 a0_6 a0_7 A0_8 l0_8 c0_8 A0_9 l0_9 c0_9 a0_10 a0_11 a0_12 A0_13 l0_13 c0_13 A0_14 l0_14 c0_14 A0_15 l0_15 c0_15)) (t := 44) ?hr ?_; (case hd => rfl); (case hg => rfl); (case hr => first | (go_simp; done) | (go_simp; rfl)); intro gb121 hg w5 hbox hb; have BK121 := Aside0.mk (hbox); have GW121 := Aside0.mk ((by rw [hg]; exact below_sizeA : w.heap.size ≤ gb121)); have GE121 := GW121; replace HB := Aside0.mk (below_stepA hb); clear hb hbox hg; have hz6 := blk16 BK121.out) | ((with_reducible refine gate_callee (f := 41) rfl ?_); refine goesL_ (some 4) rfl rfl Try.func41 (by kernel_rfl) rfl #[.agg (B44 a0_0 A0_1 l0_1 c0_1 a0_2 a0_3 A0_4 l0_4 c0_4 a0_5 a0_6 a0_7 A0_8 l0_8 c0_8 A0_9 l0_9 c0_9 a0_10 a0_11 a0_12 A0_13 l0_13 c0_13 A0_14 l0_14 c0_14 A0_15 l0_15 c0_15)] rfl mapA ?_; (with_reducible refine (bounds_sized.calls a0_0 _ _ l0_1 a0_2 a0_3 _ _ l0_4 a0_5 a0_6 a0_7 _ _ l0_8 _ _ l0_9 a0_10 a0_11 a0_12 _ _ l0_13 _ _ l0_14 _ _ l0_15 true _ (c_belowA HR0_1.out) HC0_1.out (c_belowA HR0_4.out) HC0_4.out (c_belowA HR0_8.out) HC0_8.out (c_belowA HR0_9.out) HC0_9.out (c_belowA HR0_13.out) HC0_13.out (c_belowA HR0_14.out) HC0_14.out (c_belowA HR0_15.out) HC0_15.out A2.out).mono ?_); rintro e w7 ⟨rfl, hb⟩; refine ⟨_, rfl, ?_⟩; replace BK121 := Aside0.mk (blk_keepA BK121.out hb); replace HB := Aside0.mk (below_stepA hb); (try clear hb); have hz8 := blk16 BK121.out) | (go_at_call 28; (with_reducible refine (bounds_within.calls (l0_14.length : Int) 1 8 t123 _ A4.out).mono ?_); rintro e w' ⟨rfl, ⟨nd, rfl⟩⟩))
  go_ret
  exact ⟨by first | rfl | (simp [errW_none, errW_some] <;> rfl) | (simp [*, errW_none, errW_some] <;> rfl), belowA⟩
 ·
  replace c3 := Bool.eq_false_iff.mpr c3
  subst c3
  rw [if_neg (show ¬ (false = true) by decide)] at H
  obtain rfl := Option.some.inj H
  go_enter Try.func46, Try.ntmps46
  go_wp2_with (first | ((with_reducible refine gate_dst (N := 1) rfl ?_); (try (refine gate_guard (by rfl) ?_; dsimp only)); refine box_event ?hg (N := 1) ?hd (cs := (B44 a0_0 A0_1 l0_1 c0_1 a0_2 a0_3 A0_4 l0_4 c0_4 a0_5 a0_6 a0_7 A0_8 l0_8 c0_8 A0_9 l0_9 c0_9 a0_10 a0_11 a0_12 A0_13 l0_13 c0_13 A0_14 l0_14 c0_14 A0_15 l0_15 c0_15)) (t := 44) ?hr ?_; (case hd => rfl); (case hg => rfl); (case hr => first | (go_simp; done) | (go_simp; rfl)); intro gb121 hg w9 hbox hb; have BK121 := Aside0.mk (hbox); have GW121 := Aside0.mk ((by rw [hg]; exact below_sizeA : w.heap.size ≤ gb121)); have GE121 := GW121; replace HB := Aside0.mk (below_stepA hb); clear hb hbox hg; have hz10 := blk16 BK121.out) | ((with_reducible refine gate_callee (f := 41) rfl ?_); refine goesL_ (some 4) rfl rfl Try.func41 (by kernel_rfl) rfl #[.agg (B44 a0_0 A0_1 l0_1 c0_1 a0_2 a0_3 A0_4 l0_4 c0_4 a0_5 a0_6 a0_7 A0_8 l0_8 c0_8 A0_9 l0_9 c0_9 a0_10 a0_11 a0_12 A0_13 l0_13 c0_13 A0_14 l0_14 c0_14 A0_15 l0_15 c0_15)] rfl mapA ?_; (with_reducible refine (bounds_sized.calls a0_0 _ _ l0_1 a0_2 a0_3 _ _ l0_4 a0_5 a0_6 a0_7 _ _ l0_8 _ _ l0_9 a0_10 a0_11 a0_12 _ _ l0_13 _ _ l0_14 _ _ l0_15 false _ (c_belowA HR0_1.out) HC0_1.out (c_belowA HR0_4.out) HC0_4.out (c_belowA HR0_8.out) HC0_8.out (c_belowA HR0_9.out) HC0_9.out (c_belowA HR0_13.out) HC0_13.out (c_belowA HR0_14.out) HC0_14.out (c_belowA HR0_15.out) HC0_15.out A2.out).mono ?_); rintro e w11 ⟨rfl, hb⟩; refine ⟨_, rfl, ?_⟩; replace BK121 := Aside0.mk (blk_keepA BK121.out hb); replace HB := Aside0.mk (below_stepA hb); (try clear hb)))
  go_ret
  exact ⟨by first | rfl | (simp [errW_none, errW_some] <;> rfl) | (simp [*, errW_none, errW_some] <;> rfl), belowA⟩

def bounds_of.f (a0 : Int) : Option (Int × Option Nat × Option Nat × Bool × Bool) :=
  if a0 = 0 then some (0, some 36, some 37, false, true)
  else if a0 = 1 then some (1, some 36, some 37, false, true)
  else if a0 = 2 then some (1, some 36, some 37, false, true)
  else if a0 = 3 then some (2, some 36, some 37, false, true)
  else if a0 = 4 then some (1, some 38, some 39, true, true)
  else if a0 = 5 then some (1, some 40, some 39, true, true)
  else if a0 = 6 then some (2, some 42, some 43, true, true)
  else if a0 = 7 then some (2, some 44, some 45, true, true)
  else if a0 = 8 then some (1, some 46, some 47, true, true)
  else some (0, none, none, false, false)
def ofCells : Array Value := #[.int .i64 0, .func (.func 36) #[] #[], .func (.func 37) #[] #[], .bool false, .int .i64 1, .func (.func 36) #[] #[], .func (.func 37) #[] #[], .bool false, .int .i64 1, .func (.func 36) #[] #[], .func (.func 37) #[] #[], .bool false, .int .i64 2, .func (.func 36) #[] #[], .func (.func 37) #[] #[], .bool false, .int .i64 1, .func (.func 38) #[] #[], .func (.func 39) #[] #[], .bool true, .int .i64 1, .func (.func 40) #[] #[], .func (.func 39) #[] #[], .bool true, .int .i64 2, .func (.func 42) #[] #[], .func (.func 43) #[] #[], .bool true, .int .i64 2, .func (.func 44) #[] #[], .func (.func 45) #[] #[], .bool true, .int .i64 1, .func (.func 46) #[] #[], .func (.func 47) #[] #[], .bool true]
theorem ofCells_get (a0 : Int) (h0 : 0 ≤ a0) (h1 : a0 ≤ 8) (r1 : Int) (r2 r3 : Option Nat) (r4 r5 : Bool) (h : bounds_of.f a0 = some (r1, r2, r3, r4, r5)) :
    ofCells[a0.toNat * 4]? = some (.int .i64 r1) ∧ ofCells[a0.toNat * 4 + 1]? = some (fnV r2) ∧ ofCells[a0.toNat * 4 + 2]? = some (fnV r3) ∧ ofCells[a0.toNat * 4 + 3]? = some (.bool r4) ∧ r5 = true := by
  have hc : a0 = 0 ∨ a0 = 1 ∨ a0 = 2 ∨ a0 = 3 ∨ a0 = 4 ∨ a0 = 5 ∨ a0 = 6 ∨ a0 = 7 ∨ a0 = 8 := by omega
  rcases hc with rfl | rfl | rfl | rfl | rfl | rfl | rfl | rfl | rfl <;> (simp [bounds_of.f] at h; obtain ⟨rfl, rfl, rfl, rfl, rfl⟩ := h; exact ⟨rfl, rfl, rfl, rfl, rfl⟩)


def ofZero : Array Value := #[.int .i64 0, .nilFunc, .nilFunc, .bool false, .int .i64 0, .nilFunc, .nilFunc, .bool false, .int .i64 0, .nilFunc, .nilFunc, .bool false, .int .i64 0, .nilFunc, .nilFunc, .bool false, .int .i64 0, .nilFunc, .nilFunc, .bool false, .int .i64 0, .nilFunc, .nilFunc, .bool false, .int .i64 0, .nilFunc, .nilFunc, .bool false, .int .i64 0, .nilFunc, .nilFunc, .bool false, .int .i64 0, .nilFunc, .nilFunc, .bool false]
theorem ofCells_one : ∀ v ∈ ofCells.toList, v.oneCell' = true := by
  exact List.all_eq_true.mp (by kernel_rfl)
theorem ofZero1_one : ∀ v ∈ (#[.int .i64 0, .nilFunc, .nilFunc, .bool false] : Array Value).toList, v.oneCell' = true := by
  exact List.all_eq_true.mp (by kernel_rfl)
set_option maxHeartbeats 8000000 in
set_option maxRecDepth 100000 in
theorem bounds_of.calls_out (a0 : Int) (w : World) (h : a0 < 0 ∨ 8 < a0) :
    Calls Try.prog 27 #[.int .i64 a0] w fun e w' => e = .returned (.tuple #[.agg #[.int .i64 0, fnV none, fnV none, .bool false], .bool false]) ∧ Below w.heap.size w w' := by
  have HW : Aside0 (bounds_within.f a0 0 8 = some false) := by
    constructor
    unfold bounds_within.f
    split
    · rw [decide_eq_false (by omega)]
    · rfl
  clear h
  go_enter Try.func27, Try.ntmps27
  go_wp2_with (first | ((with_reducible refine gate_dst (N := 2) rfl ?_); refine box_event rfl (N := 2) rfl (cs := #[.int .i64 0, .nilFunc, .nilFunc, .bool false]) (t := 65) (by first | (go_simp; done) | (go_simp; rfl)) ?_; intro g2 hg2 w2 hb2 hB2; have HG2 := Aside0.mk (show w.heap.size ≤ g2 by rw [hg2]; exact Nat.le_refl _); have HK2 := Aside0.mk hb2; have HB2 := Aside0.mk hB2; have HL2 := Aside0.mk (blk_lt hb2); clear hg2 hb2 hB2) | ((with_reducible refine gate_dst (N := 14) rfl ?_); refine Kd.event_run (v := .agg ofCells) rfl ?hr14 ?_; (case hr14 => kernel_rfl)) | ((with_reducible refine gate_dst (N := 4) rfl ?_); refine box_event rfl (N := 4) rfl (cs := ofZero) (t := 75) (by kernel_rfl) ?_; intro g4 hg4 w4 hb4 hB4; have HG4 := Aside0.mk (show w.heap.size ≤ g4 by rw [hg4]; exact HB2.out.size); have HN4 := Aside0.mk (show g2 ≠ g4 by rw [hg4]; exact Nat.ne_of_lt HL2.out); have HK4 := Aside0.mk hb4; have HB4 := Aside0.mk (below_step HB2.out hB4); have HK2' := Aside0.mk (blk_below HK2.out hB4); clear hg4 hb4 hB4 HK2 HB2 HL2) | ((with_reducible refine gate_store (t := 75) (p := 4) rfl ?_); refine storeRow_event rfl rfl rfl rfl rfl HK4.out (by kernel_rfl) (by kernel_rfl) ofCells_one ?_; intro w5 hk5 hf5 hB5; have HK5 := Aside0.mk hk5; have HK2 := Aside0.mk ((hf5 _ HN4.out).trans HK2'.out); have HB5 := Aside0.mk (hB5 _ _ HG4.out HB4.out); clear hk5 hf5 hB5 HB4 HK4 HK2') | (go_at_call 28; (with_reducible refine (bounds_within.calls a0 0 8 false _ HW.out).mono ?_); rintro e w' ⟨rfl, ⟨nd, rfl⟩⟩) | ((with_reducible refine gate_store (t := 65) (p := 2) rfl ?_); refine storeRow_event (old := #[.int .i64 0, .nilFunc, .nilFunc, .bool false]) (new := #[.int .i64 0, .nilFunc, .nilFunc, .bool false]) (t := 65) rfl rfl rfl rfl rfl (by (with_reducible repeat (first | refine blk_drewN ?_ _ | refine blk_drew ?_ | refine blk_alloc ?_ _)); exact HK2.out) (by kernel_rfl) rfl ofZero1_one ?_; intro w7 hk7 hf7 hB7; have HK7 := Aside0.mk hk7; have HB7 := Aside0.mk (hB7 _ _ HG2.out (pw_below_drewN HB5.out _)); clear hk7 hf7 hB7))
  have hl := run_loadVar_row (P := Try.prog) w7 g2 65 65 #[.int .i64 0, .nilFunc, .nilFunc, .bool false] (0, 0) _ HK7.out Try.underlying65 rfl (by kernel_rfl)
  refine bodyPost_ret (v := .tuple #[.agg #[.int .i64 0, fnV none, fnV none, .bool false], .bool false]) ?_ rfl ⟨rfl, HB7.out⟩
  rw [results_cell_tmp Try.results27]
  simp [asAddr, hl, fnV]

theorem ofOne (r1 : Int) (r2 r3 : Option Nat) (r4 : Bool) : ∀ v ∈ (#[.int .i64 r1, fnV r2, fnV r3, .bool r4] : Array Value).toList, v.oneCell' = true := by
 intro v hv
 simp at hv
 rcases hv with rfl | rfl | rfl | rfl
 ·
  rfl
 ·
  cases r2 <;> rfl
 ·
  cases r3 <;> rfl
 ·
  rfl
set_option maxHeartbeats 8000000 in
set_option maxRecDepth 100000 in
theorem bounds_of.calls_in (a0 : Int) (r1 : Int) (r2 r3 : Option Nat) (r4 : Bool) (w : World) (h0 : 0 ≤ a0) (h1 : a0 ≤ 8)
  (c0 : ofCells[a0.toNat * 4]? = some (.int .i64 r1)) (c1 : ofCells[a0.toNat * 4 + 1]? = some (fnV r2)) (c2 : ofCells[a0.toNat * 4 + 2]? = some (fnV r3)) (c3 : ofCells[a0.toNat * 4 + 3]? = some (.bool r4)) :
  Calls Try.prog 27 #[.int .i64 a0] w fun e w' => e = .returned (.tuple #[.agg #[.int .i64 r1, fnV r2, fnV r3, .bool r4], .bool true]) ∧ Below w.heap.size w w' := by
 have HW : Aside0 (bounds_within.f a0 0 8 = some true) := by
  constructor
  unfold bounds_within.f
  rw [if_pos (by omega), decide_eq_true (by omega)]
 have C0 := Aside0.mk c0
 have C1 := Aside0.mk c1
 have C2 := Aside0.mk c2
 have C3 := Aside0.mk c3
 clear c0 c1 c2 c3
 have h2 : a0 < 9 := by omega
 go_enter Try.func27, Try.ntmps27
 go_wp2_with (first | ((with_reducible refine gate_dst (N := 2) rfl ?_); refine box_event rfl (N := 2) rfl (cs := #[.int .i64 0, .nilFunc, .nilFunc, .bool false]) (t := 65) (by first | (go_simp; done) | (go_simp; rfl)) ?_; intro g2 hg2 w2 hb2 hB2; have HG2 := Aside0.mk (show w.heap.size ≤ g2 by rw [hg2]; exact Nat.le_refl _); have HK2 := Aside0.mk hb2; have HB2 := Aside0.mk hB2; have HL2 := Aside0.mk (blk_lt hb2); clear hg2 hb2 hB2) | ((with_reducible refine gate_dst (N := 14) rfl ?_); refine Kd.event_run (v := .agg ofCells) rfl ?hr14 ?_; (case hr14 => kernel_rfl)) | ((with_reducible refine gate_dst (N := 4) rfl ?_); refine box_event rfl (N := 4) rfl (cs := ofZero) (t := 75) (by kernel_rfl) ?_; intro g4 hg4 w4 hb4 hB4; have HG4 := Aside0.mk (show w.heap.size ≤ g4 by rw [hg4]; exact HB2.out.size); have HN4 := Aside0.mk (show g2 ≠ g4 by rw [hg4]; exact Nat.ne_of_lt HL2.out); have HK4 := Aside0.mk hb4; have HB4 := Aside0.mk (below_step HB2.out hB4); have HK2' := Aside0.mk (blk_below HK2.out hB4); clear hg4 hb4 hB4 HK2 HB2 HL2) | ((with_reducible refine gate_store (t := 75) (p := 4) rfl ?_); refine storeRow_event rfl rfl rfl rfl rfl HK4.out (by kernel_rfl) (by kernel_rfl) ofCells_one ?_; intro w5 hk5 hf5 hB5; have HK5 := Aside0.mk hk5; have HK2 := Aside0.mk ((hf5 _ HN4.out).trans HK2'.out); have HB5 := Aside0.mk (hB5 _ _ HG4.out HB4.out); clear hk5 hf5 hB5 HB4 HK4 HK2') | (go_at_call 28; (with_reducible refine (bounds_within.calls a0 0 8 true _ HW.out).mono ?_); rintro e w' ⟨rfl, ⟨nd, rfl⟩⟩) | ((with_reducible refine gate_dst (N := 21) rfl ?_); refine loadPart_event rfl rfl [.int .i64 r1, fnV r2, fnV r3, .bool r4] _ rfl (by (with_reducible repeat (first | refine blk_drewN ?_ _ | refine blk_drew ?_ | refine blk_alloc ?_ _)); exact HK5.out) Try.underlying65 rfl (by kernel_rfl) (by intro j v hv; match j, hv with | 0, hv => exact C0.out.trans hv | 1, hv => exact C1.out.trans hv | 2, hv => exact C2.out.trans hv | 3, hv => exact C3.out.trans hv | j + 4, hv => simp at hv) ?_) | ((with_reducible refine gate_store (t := 65) (p := 2) rfl ?_); refine storeRow_event (old := #[.int .i64 0, .nilFunc, .nilFunc, .bool false]) (new := #[.int .i64 r1, fnV r2, fnV r3, .bool r4]) (t := 65) rfl rfl rfl rfl rfl (by (with_reducible repeat (first | refine blk_drewN ?_ _ | refine blk_drew ?_ | refine blk_alloc ?_ _)); exact HK2.out) (by kernel_rfl) rfl (ofOne r1 r2 r3 r4) ?_; intro w7 hk7 hf7 hB7; have HK7 := Aside0.mk hk7; have HB7 := Aside0.mk (hB7 _ _ HG2.out (pw_below_drewN HB5.out _)); clear hk7 hf7 hB7))
 have hl := run_loadVar_row (P := Try.prog) w7 g2 65 65 #[.int .i64 r1, fnV r2, fnV r3, .bool r4] (0, 0) _ HK7.out Try.underlying65 rfl (by kernel_rfl)
 refine bodyPost_ret (v := .tuple #[.agg #[.int .i64 r1, fnV r2, fnV r3, .bool r4], .bool true]) ?_ rfl ⟨rfl, HB7.out⟩
 rw [results_cell_tmp Try.results27]
 simp [asAddr, hl]
theorem bounds_of.calls (a0 : Int) (r1 : Int) (r2 r3 : Option Nat) (r4 r5 : Bool) (w : World) (h : bounds_of.f a0 = some (r1, r2, r3, r4, r5)) :
  Calls Try.prog 27 #[.int .i64 a0] w fun e w' => e = .returned (.tuple #[.agg #[.int .i64 r1, fnV r2, fnV r3, .bool r4], .bool r5]) ∧ Below w.heap.size w w' := by
 by_cases hc : 0 ≤ a0 ∧ a0 ≤ 8
 ·
  obtain ⟨c0, c1, c2, c3, rfl⟩ := ofCells_get a0 hc.1 hc.2 r1 r2 r3 r4 r5 h
  exact bounds_of.calls_in a0 r1 r2 r3 r4 w hc.1 hc.2 c0 c1 c2 c3
 ·
  have hn : a0 < 0 ∨ 8 < a0 := by omega
  have e : bounds_of.f a0 = some (0, none, none, false, false) := by
   unfold bounds_of.f
   rw [if_neg (by omega), if_neg (by omega), if_neg (by omega), if_neg (by omega), if_neg (by omega), if_neg (by omega), if_neg (by omega), if_neg (by omega), if_neg (by omega)]
  rw [e] at h
  obtain ⟨rfl, rfl, rfl, rfl, rfl⟩ : 0 = r1 ∧ none = r2 ∧ none = r3 ∧ false = r4 ∧ false = r5 := by simpa using h
  exact bounds_of.calls_out a0 w hn


theorem goesV_ {P : Program} {ops : Array Oper} {Q : Exit → Act → World → Prop} {rest : List Oper} {oi : Oper} {a : Act} {w : World} (N : Option Tmp) (hd : oi.dst = N) (hg : oi.guard = none) {x : Operand} {f : FuncId} {fn : Func} {az : Array Operand} {ts : Array TypeId} (hf : P.funcs[f]? = some fn) (hname : (fn.name == "runtime.NumGoroutine") = false) (hb : fn.body.isSome = true) (args : Array Value)
    (hop : oi.op = .call { callee := .value x, args := az, argTypes := ts }) (hx : a.eval x = .func (.func f) #[] #[]) (hargs : az.map a.eval = args)
    (h : Calls P f args w fun e w' => ∃ v, e = .returned v ∧ wpList P ops Q rest (a.put N v) w') : wpList P ops Q (oi :: rest) a w := by
  refine wpList_plain hg fun K hK => ?_
  have he := enters_ hf hname hb args w
  have hrun : (execOp a.eval oi).run P w = .ok (.enter f args) w := by
    unfold execOp
    simp [hop, resolve, Deferred.ofValue, invoke, hx, hargs, he]
  unfold Oper.wp
  rw [hrun, Oper.upon_enter]
  refine h.mono fun e w'' hh => ?_
  obtain ⟨v, rfl, hk⟩ := hh
  subst hd
  exact hK _ _ hk
theorem cell_blk {w : World} {g : Nat} {cs : Array Value} {t : TypeId} {fr : Nat × Nat} (h : w.heap[g]? = some (.cells cs t fr)) {j : Nat} {v : Value} (hv : cs[j]? = some v) : w.cell? ⟨g, j, none⟩ = some v := (cell_of_row w g j cs t fr h).trans hv
set_option maxHeartbeats 8000000 in
set_option maxRecDepth 100000 in
theorem bounds_Bounded.gen (cs : Array Value) (op : Int) (hsz : 16 = cs.size) (hop : cs[0]? = some (.int .i64 op)) (r1 : Int) (f : Nat) (r3 : Option Nat) (r4 : Bool) (hof : bounds_of.f op = some (r1, some f, r3, r4, true))
    (fn : Func) (hf : Try.prog.funcs[f]? = some fn) (hname : (fn.name == "runtime.NumGoroutine") = false) (hb : fn.body.isSome = true) (r : Bool) (w : World)
    (hcall : ∀ W, Below w.heap.size w W → Calls Try.prog f #[.agg cs] W fun e w' => e = .returned (.bool r) ∧ Below W.heap.size W w') :
    Calls Try.prog 12 #[.agg cs] w fun e w' => e = .returned (.bool r) ∧ Below w.heap.size w w' := by
  have hu44 := Try.underlying44
  have hu65 := Try.underlying65
  have HSZ := Aside0.mk hsz
  have HOP := Aside0.mk hop
  have HOF := Aside0.mk hof
  have HF := Aside0.mk hf
  have HNM := Aside0.mk hname
  have HBD := Aside0.mk hb
  have HC := Aside0.mk hcall
  clear hsz hop hof hf hname hb hcall
  go_enter Try.func12, Try.ntmps12
  go_wp2_with (first
    | ((with_reducible refine gate_dst (N := 1) rfl ?_); refine box_event rfl (N := 1) rfl (cs := cs) (t := 44) (by first | (go_simp; done) | (go_simp; rfl)) ?_; intro g1 hg1 w1 hb1 hB1; have HG1 := Aside0.mk (show w.heap.size ≤ g1 by rw [hg1]; exact Nat.le_refl _); have HK1 := Aside0.mk hb1; have HB1 := Aside0.mk hB1; have hc1 := cell_blk hb1 HOP.out; clear hg1 hb1 hB1)
    | ((with_reducible refine gate_callee (f := 27) rfl ?_); refine goesL_ (some 8) rfl rfl Try.func27 (by kernel_rfl) rfl #[.int .i64 op] rfl (by first | done | rfl | (simp only [List.map_toArray, List.map_cons, List.map_nil]; rfl)) ?_; (with_reducible refine (bounds_of.calls op r1 (some f) r3 r4 true _ HOF.out).mono ?_); rintro e w3 ⟨rfl, hb⟩; refine ⟨_, rfl, ?_⟩; have HK3 := Aside0.mk (blk_below HK1.out hb); have HL3 := Aside0.mk (Nat.lt_of_lt_of_le (blk_lt HK1.out) hb.size); have HB3 := Aside0.mk (below_step HB1.out hb); clear hb hc1 HK1 HB1)
    | ((with_reducible refine gate_dst (N := 3) rfl ?_); refine box_event rfl (N := 3) rfl (cs := #[.int .i64 0, .nilFunc, .nilFunc, .bool false]) (t := 65) (by first | (go_simp; done) | (go_simp; rfl)) ?_; intro g4 hg4 w4 hb4 hB4; have HG4 := Aside0.mk (show w.heap.size ≤ g4 by rw [hg4]; exact HB3.out.size); have HN4 := Aside0.mk (show g1 ≠ g4 by rw [hg4]; exact Nat.ne_of_lt HL3.out); have HK4 := Aside0.mk hb4; have HB4 := Aside0.mk (below_step HB3.out hB4); have HK1 := Aside0.mk (blk_below HK3.out hB4); clear hg4 hb4 hB4 HK3 HB3 HL3)
    | ((with_reducible refine gate_store (t := 65) (p := 3) rfl ?_); refine storeRow_event (new := #[.int .i64 r1, fnV (some f), fnV r3, .bool r4]) rfl rfl rfl rfl rfl HK4.out (by kernel_rfl) rfl (ofOne r1 (some f) r3 r4) ?_; intro w5 hk5 hf5 hB5; have HK5 := Aside0.mk hk5; have HK1' := Aside0.mk ((hf5 _ HN4.out).trans HK1.out); have HB5 := Aside0.mk (hB5 _ _ HG4.out HB4.out); have hc5 : w5.cell? ⟨g4, 1, none⟩ = some (.func (.func f) #[] #[]) := cell_blk hk5 rfl; clear hk5 hf5 hB5 HB4 HK4 HK1)
    | ((with_reducible refine gate_dst (N := 15) rfl ?_); refine gate_guard (by rfl) ?_; refine loadPart_event rfl rfl cs.toList _ rfl HK1'.out Try.underlying44 rfl (by rw [Array.length_toList, ← HSZ.out]; kernel_rfl) (by intro j v hv; rw [Nat.zero_add]; rw [← Array.getElem?_toList]; exact hv) ?_)
    | ((with_reducible refine gate_dst (N := 16) rfl ?_); refine gate_guard (by rfl) ?_; refine goesV_ (some 16) rfl rfl HF.out HNM.out HBD.out #[.agg cs] rfl rfl (by first | done | rfl | (simp only [List.map_toArray, List.map_cons, List.map_nil]; rfl)) ?_; refine (HC.out _ HB5.out).mono ?_; rintro e w6 ⟨rfl, hb⟩; refine ⟨_, rfl, ?_⟩; have HB6 := Aside0.mk (below_step HB5.out hb); clear hb))
  go_ret
  exact ⟨rfl, HB6.out⟩
set_option maxHeartbeats 8000000 in
set_option maxRecDepth 100000 in
theorem bounds_Bounded.gen0 (cs : Array Value) (op : Int) (hsz : 16 = cs.size) (hop : cs[0]? = some (.int .i64 op)) (hof : bounds_of.f op = some (0, none, none, false, false)) (w : World) :
    Calls Try.prog 12 #[.agg cs] w fun e w' => e = .returned (.bool false) ∧ Below w.heap.size w w' := by
 have hu44 := Try.underlying44
 have hu65 := Try.underlying65
 have HSZ := Aside0.mk hsz
 have HOP := Aside0.mk hop
 have HOF := Aside0.mk hof
 clear hsz hop hof
 go_enter Try.func12, Try.ntmps12
 go_wp2_with (first
  | ((with_reducible refine gate_dst (N := 1) rfl ?_); refine box_event rfl (N := 1) rfl (cs := cs) (t := 44) (by first | (go_simp; done) | (go_simp; rfl)) ?_; intro g1 hg1 w1 hb1 hB1; have HG1 := Aside0.mk (show w.heap.size ≤ g1 by rw [hg1]; exact Nat.le_refl _); have HK1 := Aside0.mk hb1; have HB1 := Aside0.mk hB1; have hc1 := cell_blk hb1 HOP.out; clear hg1 hb1 hB1)
  | ((with_reducible refine gate_callee (f := 27) rfl ?_); refine goesL_ (some 8) rfl rfl Try.func27 (by kernel_rfl) rfl #[.int .i64 op] rfl (by first | done | rfl | (simp only [List.map_toArray, List.map_cons, List.map_nil]; rfl)) ?_; (with_reducible refine (bounds_of.calls op 0 none none false false _ HOF.out).mono ?_); rintro e w3 ⟨rfl, hb⟩; refine ⟨_, rfl, ?_⟩; have HB3 := Aside0.mk (below_step HB1.out hb); clear hb hc1 HK1 HB1)
  | ((with_reducible refine gate_dst (N := 3) rfl ?_); refine box_event rfl (N := 3) rfl (cs := #[.int .i64 0, .nilFunc, .nilFunc, .bool false]) (t := 65) (by first | (go_simp; done) | (go_simp; rfl)) ?_; intro g4 hg4 w4 hb4 hB4; have HG4 := Aside0.mk (show w.heap.size ≤ g4 by rw [hg4]; exact HB3.out.size); have HK4 := Aside0.mk hb4; have HB4 := Aside0.mk (below_step HB3.out hB4); clear hg4 hb4 hB4 HB3)
  | ((with_reducible refine gate_store (t := 65) (p := 3) rfl ?_); refine storeRow_event (new := #[.int .i64 0, fnV none, fnV none, .bool false]) rfl rfl rfl rfl rfl HK4.out (by kernel_rfl) rfl (ofOne 0 none none false) ?_; intro w5 hk5 hf5 hB5; have HB5 := Aside0.mk (hB5 _ _ HG4.out HB4.out); clear hk5 hf5 hB5 HB4 HK4))
 go_ret
 exact ⟨rfl, HB5.out⟩

def bounds_Bounded.f (a0_0 : Int) (l0_1 : List Int) (a0_2 : ByteArray) (a0_3 : Int) (l0_4 : List (S93)) (a0_5 : Int) (a0_6 : Int) (a0_7 : Int) (l0_8 : List Int) (l0_9 : List Int) (a0_10 : Int) (a0_11 : Int) (a0_12 : Int) (l0_13 : List (S97)) (l0_14 : List (S99)) (l0_15 : List (S50)) : Option (Bool) :=
 if a0_0 = 0 then bounds_always.f a0_0 l0_1 a0_2 a0_3 l0_4 a0_5 a0_6 a0_7 l0_8 l0_9 a0_10 a0_11 a0_12 l0_13 l0_14 l0_15
 else if a0_0 = 1 then bounds_always.f a0_0 l0_1 a0_2 a0_3 l0_4 a0_5 a0_6 a0_7 l0_8 l0_9 a0_10 a0_11 a0_12 l0_13 l0_14 l0_15
 else if a0_0 = 2 then bounds_always.f a0_0 l0_1 a0_2 a0_3 l0_4 a0_5 a0_6 a0_7 l0_8 l0_9 a0_10 a0_11 a0_12 l0_13 l0_14 l0_15
 else if a0_0 = 3 then bounds_always.f a0_0 l0_1 a0_2 a0_3 l0_4 a0_5 a0_6 a0_7 l0_8 l0_9 a0_10 a0_11 a0_12 l0_13 l0_14 l0_15
 else if a0_0 = 4 then bounds_window.f a0_0 l0_1 a0_2 a0_3 l0_4 a0_5 a0_6 a0_7 l0_8 l0_9 a0_10 a0_11 a0_12 l0_13 l0_14 l0_15
 else if a0_0 = 5 then bounds_of_S1.f a0_0 l0_1 a0_2 a0_3 l0_4 a0_5 a0_6 a0_7 l0_8 l0_9 a0_10 a0_11 a0_12 l0_13 l0_14 l0_15
 else if a0_0 = 6 then bounds_of_S2.f a0_0 l0_1 a0_2 a0_3 l0_4 a0_5 a0_6 a0_7 l0_8 l0_9 a0_10 a0_11 a0_12 l0_13 l0_14 l0_15
 else if a0_0 = 7 then bounds_of_S4.f a0_0 l0_1 a0_2 a0_3 l0_4 a0_5 a0_6 a0_7 l0_8 l0_9 a0_10 a0_11 a0_12 l0_13 l0_14 l0_15
 else if a0_0 = 8 then bounds_of_S6.f a0_0 l0_1 a0_2 a0_3 l0_4 a0_5 a0_6 a0_7 l0_8 l0_9 a0_10 a0_11 a0_12 l0_13 l0_14 l0_15
 else some false

set_option maxRecDepth 100000 in
theorem bounds_Bounded.calls (a0_0 : Int) (A0_1 : Option Addr) (c0_1 : Nat) (l0_1 : List Int) (a0_2 : ByteArray) (a0_3 : Int) (A0_4 : Option Addr) (c0_4 : Nat) (l0_4 : List (S93)) (a0_5 : Int) (a0_6 : Int) (a0_7 : Int) (A0_8 : Option Addr) (c0_8 : Nat) (l0_8 : List Int) (A0_9 : Option Addr) (c0_9 : Nat) (l0_9 : List Int) (a0_10 : Int) (a0_11 : Int) (a0_12 : Int) (A0_13 : Option Addr) (c0_13 : Nat) (l0_13 : List (S97)) (A0_14 : Option Addr) (c0_14 : Nat) (l0_14 : List (S99)) (A0_15 : Option Addr) (c0_15 : Nat) (l0_15 : List (S50)) (r : Bool) (w : World) (hr0_1 : Kd.C (Kd.int .i64) w A0_1 l0_1.length l0_1) (hc0_1 : l0_1.length ≤ c0_1) (hr0_4 : Kd.C k93 w A0_4 l0_4.length l0_4) (hc0_4 : l0_4.length ≤ c0_4) (hr0_8 : Kd.C (Kd.int .i64) w A0_8 l0_8.length l0_8) (hc0_8 : l0_8.length ≤ c0_8) (hr0_9 : Kd.C (Kd.int .i64) w A0_9 l0_9.length l0_9) (hc0_9 : l0_9.length ≤ c0_9) (hr0_13 : Kd.C k97 w A0_13 l0_13.length l0_13) (hc0_13 : l0_13.length ≤ c0_13) (hr0_14 : Kd.C k99 w A0_14 l0_14.length l0_14) (hc0_14 : l0_14.length ≤ c0_14) (hr0_15 : Kd.C k50 w A0_15 l0_15.length l0_15) (hc0_15 : l0_15.length ≤ c0_15) (h : bounds_Bounded.f a0_0 l0_1 a0_2 a0_3 l0_4 a0_5 a0_6 a0_7 l0_8 l0_9 a0_10 a0_11 a0_12 l0_13 l0_14 l0_15 = some r) :
  Calls Try.prog 12 #[.agg (B44 a0_0 A0_1 l0_1 c0_1 a0_2 a0_3 A0_4 l0_4 c0_4 a0_5 a0_6 a0_7 A0_8 l0_8 c0_8 A0_9 l0_9 c0_9 a0_10 a0_11 a0_12 A0_13 l0_13 c0_13 A0_14 l0_14 c0_14 A0_15 l0_15 c0_15)] w fun e w' => e = .returned (.bool r) ∧ Below w.heap.size w w' := by
 by_cases e0 : a0_0 = 0
 ·
  subst e0
  have h' : bounds_always.f 0 l0_1 a0_2 a0_3 l0_4 a0_5 a0_6 a0_7 l0_8 l0_9 a0_10 a0_11 a0_12 l0_13 l0_14 l0_15 = some r := by simpa [bounds_Bounded.f] using h
  exact bounds_Bounded.gen _ 0 rfl rfl 0 36 (some 37) false rfl _ Try.func36 (by kernel_rfl) rfl r w (fun W hb => bounds_always.calls 0 A0_1 c0_1 l0_1 a0_2 a0_3 A0_4 c0_4 l0_4 a0_5 a0_6 a0_7 A0_8 c0_8 l0_8 A0_9 c0_9 l0_9 a0_10 a0_11 a0_12 A0_13 c0_13 l0_13 A0_14 c0_14 l0_14 A0_15 c0_15 l0_15 r W (Kd.C_below hr0_1 hb) hc0_1 (Kd.C_below hr0_4 hb) hc0_4 (Kd.C_below hr0_8 hb) hc0_8 (Kd.C_below hr0_9 hb) hc0_9 (Kd.C_below hr0_13 hb) hc0_13 (Kd.C_below hr0_14 hb) hc0_14 (Kd.C_below hr0_15 hb) hc0_15 h')
 by_cases e1 : a0_0 = 1
 ·
  subst e1
  have h' : bounds_always.f 1 l0_1 a0_2 a0_3 l0_4 a0_5 a0_6 a0_7 l0_8 l0_9 a0_10 a0_11 a0_12 l0_13 l0_14 l0_15 = some r := by simpa [bounds_Bounded.f] using h
  exact bounds_Bounded.gen _ 1 rfl rfl 1 36 (some 37) false rfl _ Try.func36 (by kernel_rfl) rfl r w (fun W hb => bounds_always.calls 1 A0_1 c0_1 l0_1 a0_2 a0_3 A0_4 c0_4 l0_4 a0_5 a0_6 a0_7 A0_8 c0_8 l0_8 A0_9 c0_9 l0_9 a0_10 a0_11 a0_12 A0_13 c0_13 l0_13 A0_14 c0_14 l0_14 A0_15 c0_15 l0_15 r W (Kd.C_below hr0_1 hb) hc0_1 (Kd.C_below hr0_4 hb) hc0_4 (Kd.C_below hr0_8 hb) hc0_8 (Kd.C_below hr0_9 hb) hc0_9 (Kd.C_below hr0_13 hb) hc0_13 (Kd.C_below hr0_14 hb) hc0_14 (Kd.C_below hr0_15 hb) hc0_15 h')
 by_cases e2 : a0_0 = 2
 ·
  subst e2
  have h' : bounds_always.f 2 l0_1 a0_2 a0_3 l0_4 a0_5 a0_6 a0_7 l0_8 l0_9 a0_10 a0_11 a0_12 l0_13 l0_14 l0_15 = some r := by simpa [bounds_Bounded.f] using h
  exact bounds_Bounded.gen _ 2 rfl rfl 1 36 (some 37) false rfl _ Try.func36 (by kernel_rfl) rfl r w (fun W hb => bounds_always.calls 2 A0_1 c0_1 l0_1 a0_2 a0_3 A0_4 c0_4 l0_4 a0_5 a0_6 a0_7 A0_8 c0_8 l0_8 A0_9 c0_9 l0_9 a0_10 a0_11 a0_12 A0_13 c0_13 l0_13 A0_14 c0_14 l0_14 A0_15 c0_15 l0_15 r W (Kd.C_below hr0_1 hb) hc0_1 (Kd.C_below hr0_4 hb) hc0_4 (Kd.C_below hr0_8 hb) hc0_8 (Kd.C_below hr0_9 hb) hc0_9 (Kd.C_below hr0_13 hb) hc0_13 (Kd.C_below hr0_14 hb) hc0_14 (Kd.C_below hr0_15 hb) hc0_15 h')
 by_cases e3 : a0_0 = 3
 ·
  subst e3
  have h' : bounds_always.f 3 l0_1 a0_2 a0_3 l0_4 a0_5 a0_6 a0_7 l0_8 l0_9 a0_10 a0_11 a0_12 l0_13 l0_14 l0_15 = some r := by simpa [bounds_Bounded.f] using h
  exact bounds_Bounded.gen _ 3 rfl rfl 2 36 (some 37) false rfl _ Try.func36 (by kernel_rfl) rfl r w (fun W hb => bounds_always.calls 3 A0_1 c0_1 l0_1 a0_2 a0_3 A0_4 c0_4 l0_4 a0_5 a0_6 a0_7 A0_8 c0_8 l0_8 A0_9 c0_9 l0_9 a0_10 a0_11 a0_12 A0_13 c0_13 l0_13 A0_14 c0_14 l0_14 A0_15 c0_15 l0_15 r W (Kd.C_below hr0_1 hb) hc0_1 (Kd.C_below hr0_4 hb) hc0_4 (Kd.C_below hr0_8 hb) hc0_8 (Kd.C_below hr0_9 hb) hc0_9 (Kd.C_below hr0_13 hb) hc0_13 (Kd.C_below hr0_14 hb) hc0_14 (Kd.C_below hr0_15 hb) hc0_15 h')
 by_cases e4 : a0_0 = 4
 ·
  subst e4
  have h' : bounds_window.f 4 l0_1 a0_2 a0_3 l0_4 a0_5 a0_6 a0_7 l0_8 l0_9 a0_10 a0_11 a0_12 l0_13 l0_14 l0_15 = some r := by simpa [bounds_Bounded.f] using h
  exact bounds_Bounded.gen _ 4 rfl rfl 1 38 (some 39) true rfl _ Try.func38 (by kernel_rfl) rfl r w (fun W hb => bounds_window.calls 4 A0_1 c0_1 l0_1 a0_2 a0_3 A0_4 c0_4 l0_4 a0_5 a0_6 a0_7 A0_8 c0_8 l0_8 A0_9 c0_9 l0_9 a0_10 a0_11 a0_12 A0_13 c0_13 l0_13 A0_14 c0_14 l0_14 A0_15 c0_15 l0_15 r W (Kd.C_below hr0_1 hb) hc0_1 (Kd.C_below hr0_4 hb) hc0_4 (Kd.C_below hr0_8 hb) hc0_8 (Kd.C_below hr0_9 hb) hc0_9 (Kd.C_below hr0_13 hb) hc0_13 (Kd.C_below hr0_14 hb) hc0_14 (Kd.C_below hr0_15 hb) hc0_15 h')
 by_cases e5 : a0_0 = 5
 ·
  subst e5
  have h' : bounds_of_S1.f 5 l0_1 a0_2 a0_3 l0_4 a0_5 a0_6 a0_7 l0_8 l0_9 a0_10 a0_11 a0_12 l0_13 l0_14 l0_15 = some r := by simpa [bounds_Bounded.f] using h
  exact bounds_Bounded.gen _ 5 rfl rfl 1 40 (some 39) true rfl _ Try.func40 (by kernel_rfl) rfl r w (fun W hb => bounds_of_S1.calls 5 A0_1 c0_1 l0_1 a0_2 a0_3 A0_4 c0_4 l0_4 a0_5 a0_6 a0_7 A0_8 c0_8 l0_8 A0_9 c0_9 l0_9 a0_10 a0_11 a0_12 A0_13 c0_13 l0_13 A0_14 c0_14 l0_14 A0_15 c0_15 l0_15 r W (Kd.C_below hr0_1 hb) hc0_1 (Kd.C_below hr0_4 hb) hc0_4 (Kd.C_below hr0_8 hb) hc0_8 (Kd.C_below hr0_9 hb) hc0_9 (Kd.C_below hr0_13 hb) hc0_13 (Kd.C_below hr0_14 hb) hc0_14 (Kd.C_below hr0_15 hb) hc0_15 h')
 by_cases e6 : a0_0 = 6
 ·
  subst e6
  have h' : bounds_of_S2.f 6 l0_1 a0_2 a0_3 l0_4 a0_5 a0_6 a0_7 l0_8 l0_9 a0_10 a0_11 a0_12 l0_13 l0_14 l0_15 = some r := by simpa [bounds_Bounded.f] using h
  exact bounds_Bounded.gen _ 6 rfl rfl 2 42 (some 43) true rfl _ Try.func42 (by kernel_rfl) rfl r w (fun W hb => bounds_of_S2.calls 6 A0_1 c0_1 l0_1 a0_2 a0_3 A0_4 c0_4 l0_4 a0_5 a0_6 a0_7 A0_8 c0_8 l0_8 A0_9 c0_9 l0_9 a0_10 a0_11 a0_12 A0_13 c0_13 l0_13 A0_14 c0_14 l0_14 A0_15 c0_15 l0_15 r W (Kd.C_below hr0_1 hb) hc0_1 (Kd.C_below hr0_4 hb) hc0_4 (Kd.C_below hr0_8 hb) hc0_8 (Kd.C_below hr0_9 hb) hc0_9 (Kd.C_below hr0_13 hb) hc0_13 (Kd.C_below hr0_14 hb) hc0_14 (Kd.C_below hr0_15 hb) hc0_15 h')
 by_cases e7 : a0_0 = 7
 ·
  subst e7
  have h' : bounds_of_S4.f 7 l0_1 a0_2 a0_3 l0_4 a0_5 a0_6 a0_7 l0_8 l0_9 a0_10 a0_11 a0_12 l0_13 l0_14 l0_15 = some r := by simpa [bounds_Bounded.f] using h
  exact bounds_Bounded.gen _ 7 rfl rfl 2 44 (some 45) true rfl _ Try.func44 (by kernel_rfl) rfl r w (fun W hb => bounds_of_S4.calls 7 A0_1 c0_1 l0_1 a0_2 a0_3 A0_4 c0_4 l0_4 a0_5 a0_6 a0_7 A0_8 c0_8 l0_8 A0_9 c0_9 l0_9 a0_10 a0_11 a0_12 A0_13 c0_13 l0_13 A0_14 c0_14 l0_14 A0_15 c0_15 l0_15 r W (Kd.C_below hr0_1 hb) hc0_1 (Kd.C_below hr0_4 hb) hc0_4 (Kd.C_below hr0_8 hb) hc0_8 (Kd.C_below hr0_9 hb) hc0_9 (Kd.C_below hr0_13 hb) hc0_13 (Kd.C_below hr0_14 hb) hc0_14 (Kd.C_below hr0_15 hb) hc0_15 h')
 by_cases e8 : a0_0 = 8
 ·
  subst e8
  have h' : bounds_of_S6.f 8 l0_1 a0_2 a0_3 l0_4 a0_5 a0_6 a0_7 l0_8 l0_9 a0_10 a0_11 a0_12 l0_13 l0_14 l0_15 = some r := by simpa [bounds_Bounded.f] using h
  exact bounds_Bounded.gen _ 8 rfl rfl 1 46 (some 47) true rfl _ Try.func46 (by kernel_rfl) rfl r w (fun W hb => bounds_of_S6.calls 8 A0_1 c0_1 l0_1 a0_2 a0_3 A0_4 c0_4 l0_4 a0_5 a0_6 a0_7 A0_8 c0_8 l0_8 A0_9 c0_9 l0_9 a0_10 a0_11 a0_12 A0_13 c0_13 l0_13 A0_14 c0_14 l0_14 A0_15 c0_15 l0_15 r W (Kd.C_below hr0_1 hb) hc0_1 (Kd.C_below hr0_4 hb) hc0_4 (Kd.C_below hr0_8 hb) hc0_8 (Kd.C_below hr0_9 hb) hc0_9 (Kd.C_below hr0_13 hb) hc0_13 (Kd.C_below hr0_14 hb) hc0_14 (Kd.C_below hr0_15 hb) hc0_15 h')
 have e : bounds_of.f a0_0 = some (0, none, none, false, false) := by
  unfold bounds_of.f
  rw [if_neg e0, if_neg e1, if_neg e2, if_neg e3, if_neg e4, if_neg e5, if_neg e6, if_neg e7, if_neg e8]
 unfold bounds_Bounded.f at h
 rw [if_neg e0, if_neg e1, if_neg e2, if_neg e3, if_neg e4, if_neg e5, if_neg e6, if_neg e7, if_neg e8] at h
 obtain rfl := Option.some.inj h
 exact bounds_Bounded.gen0 _ a0_0 rfl rfl e w

def bounds_none.f (a0_0 : Int) (l0_1 : List Int) (a0_2 : ByteArray) (a0_3 : Int) (l0_4 : List (S93)) (a0_5 : Int) (a0_6 : Int) (a0_7 : Int) (l0_8 : List Int) (l0_9 : List Int) (a0_10 : Int) (a0_11 : Int) (a0_12 : Int) (l0_13 : List (S97)) (l0_14 : List (S99)) (l0_15 : List (S50)) : Option (Int × Int) := some (0, 0)
set_option maxHeartbeats 8000000 in
set_option maxRecDepth 100000 in
theorem bounds_none.calls (a0_0 : Int) (A0_1 : Option Addr) (c0_1 : Nat) (l0_1 : List Int) (a0_2 : ByteArray) (a0_3 : Int) (A0_4 : Option Addr) (c0_4 : Nat) (l0_4 : List (S93)) (a0_5 : Int) (a0_6 : Int) (a0_7 : Int) (A0_8 : Option Addr) (c0_8 : Nat) (l0_8 : List Int) (A0_9 : Option Addr) (c0_9 : Nat) (l0_9 : List Int) (a0_10 : Int) (a0_11 : Int) (a0_12 : Int) (A0_13 : Option Addr) (c0_13 : Nat) (l0_13 : List (S97)) (A0_14 : Option Addr) (c0_14 : Nat) (l0_14 : List (S99)) (A0_15 : Option Addr) (c0_15 : Nat) (l0_15 : List (S50)) (r1 : Int) (r2 : Int) (w : World) (hr0_1 : Kd.C (Kd.int .i64) w A0_1 l0_1.length l0_1) (hc0_1 : l0_1.length ≤ c0_1) (hr0_4 : Kd.C k93 w A0_4 l0_4.length l0_4) (hc0_4 : l0_4.length ≤ c0_4) (hr0_8 : Kd.C (Kd.int .i64) w A0_8 l0_8.length l0_8) (hc0_8 : l0_8.length ≤ c0_8) (hr0_9 : Kd.C (Kd.int .i64) w A0_9 l0_9.length l0_9) (hc0_9 : l0_9.length ≤ c0_9) (hr0_13 : Kd.C k97 w A0_13 l0_13.length l0_13) (hc0_13 : l0_13.length ≤ c0_13) (hr0_14 : Kd.C k99 w A0_14 l0_14.length l0_14) (hc0_14 : l0_14.length ≤ c0_14) (hr0_15 : Kd.C k50 w A0_15 l0_15.length l0_15) (hc0_15 : l0_15.length ≤ c0_15) (h : bounds_none.f a0_0 l0_1 a0_2 a0_3 l0_4 a0_5 a0_6 a0_7 l0_8 l0_9 a0_10 a0_11 a0_12 l0_13 l0_14 l0_15 = some (r1, r2)) :
    Calls Try.prog 37 #[.agg #[.int .i64 a0_0, .slice A0_1 l0_1.length c0_1, .string a0_2, .int .i64 a0_3, .slice A0_4 l0_4.length c0_4, .int .i64 a0_5, .int .i64 a0_6, .int .i64 a0_7, .slice A0_8 l0_8.length c0_8, .slice A0_9 l0_9.length c0_9, .int .i64 a0_10, .int .i64 a0_11, .int .i64 a0_12, .slice A0_13 l0_13.length c0_13, .slice A0_14 l0_14.length c0_14, .slice A0_15 l0_15.length c0_15]] w fun e w' => e = .returned (.tuple #[.int .i64 r1, .int .i64 r2]) ∧ Below w.heap.size w w' := by
 have hu44 := Try.underlying44
 have HR0_1 := Aside0.mk hr0_1
 have HC0_1 := Aside0.mk hc0_1
 clear hr0_1 hc0_1
 have HR0_4 := Aside0.mk hr0_4
 have HC0_4 := Aside0.mk hc0_4
 clear hr0_4 hc0_4
 have HR0_8 := Aside0.mk hr0_8
 have HC0_8 := Aside0.mk hc0_8
 clear hr0_8 hc0_8
 have HR0_9 := Aside0.mk hr0_9
 have HC0_9 := Aside0.mk hc0_9
 clear hr0_9 hc0_9
 have HR0_13 := Aside0.mk hr0_13
 have HC0_13 := Aside0.mk hc0_13
 clear hr0_13 hc0_13
 have HR0_14 := Aside0.mk hr0_14
 have HC0_14 := Aside0.mk hc0_14
 clear hr0_14 hc0_14
 have HR0_15 := Aside0.mk hr0_15
 have HC0_15 := Aside0.mk hc0_15
 clear hr0_15 hc0_15
 have HB := Aside0.mk (Below.refl w.heap.size w)
 have H : (some (0, 0)) = some (r1, r2) := h
 clear h
 simp only [Option.some.injEq, Prod.mk.injEq] at H
 obtain ⟨rfl, rfl⟩ := H
 go_enter Try.func37, Try.ntmps37
 go_wp2_with (first | ((with_reducible refine gate_dst (N := 1) rfl ?_); refine box_event ?hg (N := 1) ?hd (cs := (B44 a0_0 A0_1 l0_1 c0_1 a0_2 a0_3 A0_4 l0_4 c0_4 a0_5 a0_6 a0_7 A0_8 l0_8 c0_8 A0_9 l0_9 c0_9 a0_10 a0_11 a0_12 A0_13 l0_13 c0_13 A0_14 l0_14 c0_14 A0_15 l0_15 c0_15)) (t := 44) ?hr ?_; (case hd => rfl); (case hg => rfl); (case hr => first | (go_simp; done) | (go_simp; rfl)); intro gb102 hg w2 hbox hb; have BK102 := Aside0.mk (hbox); have GW102 := Aside0.mk ((by rw [hg]; exact below_sizeA : w.heap.size ≤ gb102)); have GE102 := GW102; replace HB := Aside0.mk (below_stepA hb); clear hb hbox hg))
 go_ret2
 exact ⟨by first | rfl | (simp [errW_none, errW_some] <;> rfl) | (simp [*, errW_none, errW_some] <;> rfl), belowA⟩

def bounds_block.f (a0_0 : Int) (l0_1 : List Int) (a0_2 : ByteArray) (a0_3 : Int) (l0_4 : List (S93)) (a0_5 : Int) (a0_6 : Int) (a0_7 : Int) (l0_8 : List Int) (l0_9 : List Int) (a0_10 : Int) (a0_11 : Int) (a0_12 : Int) (l0_13 : List (S97)) (l0_14 : List (S99)) (l0_15 : List (S50)) : Option (Int × Int) := if a0_0 = 4 then (if a0_5 = 2 then (some (wrap64 (a0_6 - 1), wrap64 (a0_7 - 1))) else (some (wrap64 (a0_6 - 1), wrap64 (a0_6 - 1)))) else (some (wrap64 (a0_6 - 1), wrap64 (a0_6 - 1)))
set_option maxHeartbeats 8000000 in
set_option maxRecDepth 100000 in
theorem bounds_block.calls (a0_0 : Int) (A0_1 : Option Addr) (c0_1 : Nat) (l0_1 : List Int) (a0_2 : ByteArray) (a0_3 : Int) (A0_4 : Option Addr) (c0_4 : Nat) (l0_4 : List (S93)) (a0_5 : Int) (a0_6 : Int) (a0_7 : Int) (A0_8 : Option Addr) (c0_8 : Nat) (l0_8 : List Int) (A0_9 : Option Addr) (c0_9 : Nat) (l0_9 : List Int) (a0_10 : Int) (a0_11 : Int) (a0_12 : Int) (A0_13 : Option Addr) (c0_13 : Nat) (l0_13 : List (S97)) (A0_14 : Option Addr) (c0_14 : Nat) (l0_14 : List (S99)) (A0_15 : Option Addr) (c0_15 : Nat) (l0_15 : List (S50)) (r1 : Int) (r2 : Int) (w : World) (hr0_1 : Kd.C (Kd.int .i64) w A0_1 l0_1.length l0_1) (hc0_1 : l0_1.length ≤ c0_1) (hr0_4 : Kd.C k93 w A0_4 l0_4.length l0_4) (hc0_4 : l0_4.length ≤ c0_4) (hr0_8 : Kd.C (Kd.int .i64) w A0_8 l0_8.length l0_8) (hc0_8 : l0_8.length ≤ c0_8) (hr0_9 : Kd.C (Kd.int .i64) w A0_9 l0_9.length l0_9) (hc0_9 : l0_9.length ≤ c0_9) (hr0_13 : Kd.C k97 w A0_13 l0_13.length l0_13) (hc0_13 : l0_13.length ≤ c0_13) (hr0_14 : Kd.C k99 w A0_14 l0_14.length l0_14) (hc0_14 : l0_14.length ≤ c0_14) (hr0_15 : Kd.C k50 w A0_15 l0_15.length l0_15) (hc0_15 : l0_15.length ≤ c0_15) (h : bounds_block.f a0_0 l0_1 a0_2 a0_3 l0_4 a0_5 a0_6 a0_7 l0_8 l0_9 a0_10 a0_11 a0_12 l0_13 l0_14 l0_15 = some (r1, r2)) :
    Calls Try.prog 39 #[.agg #[.int .i64 a0_0, .slice A0_1 l0_1.length c0_1, .string a0_2, .int .i64 a0_3, .slice A0_4 l0_4.length c0_4, .int .i64 a0_5, .int .i64 a0_6, .int .i64 a0_7, .slice A0_8 l0_8.length c0_8, .slice A0_9 l0_9.length c0_9, .int .i64 a0_10, .int .i64 a0_11, .int .i64 a0_12, .slice A0_13 l0_13.length c0_13, .slice A0_14 l0_14.length c0_14, .slice A0_15 l0_15.length c0_15]] w fun e w' => e = .returned (.tuple #[.int .i64 r1, .int .i64 r2]) ∧ Below w.heap.size w w' := by
 have hu44 := Try.underlying44
 have HR0_1 := Aside0.mk hr0_1
 have HC0_1 := Aside0.mk hc0_1
 clear hr0_1 hc0_1
 have HR0_4 := Aside0.mk hr0_4
 have HC0_4 := Aside0.mk hc0_4
 clear hr0_4 hc0_4
 have HR0_8 := Aside0.mk hr0_8
 have HC0_8 := Aside0.mk hc0_8
 clear hr0_8 hc0_8
 have HR0_9 := Aside0.mk hr0_9
 have HC0_9 := Aside0.mk hc0_9
 clear hr0_9 hc0_9
 have HR0_13 := Aside0.mk hr0_13
 have HC0_13 := Aside0.mk hc0_13
 clear hr0_13 hc0_13
 have HR0_14 := Aside0.mk hr0_14
 have HC0_14 := Aside0.mk hc0_14
 clear hr0_14 hc0_14
 have HR0_15 := Aside0.mk hr0_15
 have HC0_15 := Aside0.mk hc0_15
 clear hr0_15 hc0_15
 have HB := Aside0.mk (Below.refl w.heap.size w)
 have H : (if a0_0 = 4 then (if a0_5 = 2 then (some (wrap64 (a0_6 - 1), wrap64 (a0_7 - 1))) else (some (wrap64 (a0_6 - 1), wrap64 (a0_6 - 1)))) else (some (wrap64 (a0_6 - 1), wrap64 (a0_6 - 1)))) = some (r1, r2) := h
 clear h
 by_cases c2 : a0_0 = 4
 ·
  rw [if_pos c2] at H
  have c2b0 : (a0_0 == 4) = true := beq_iff_eq.mpr c2
  have c2b1 : (a0_0 != 4) = false := bne_eq_false_iff_eq.mpr c2
  clear c2
  by_cases c3 : a0_5 = 2
  ·
   rw [if_pos c3] at H
   have c3b0 : (a0_5 == 2) = true := beq_iff_eq.mpr c3
   have c3b1 : (a0_5 != 2) = false := bne_eq_false_iff_eq.mpr c3
   clear c3
   simp only [Option.some.injEq, Prod.mk.injEq] at H
   obtain ⟨rfl, rfl⟩ := H
   go_enter Try.func39, Try.ntmps39
   go_wp2_with (first | ((with_reducible refine gate_dst (N := 1) rfl ?_); refine box_event ?hg (N := 1) ?hd (cs := (B44 a0_0 A0_1 l0_1 c0_1 a0_2 a0_3 A0_4 l0_4 c0_4 a0_5 a0_6 a0_7 A0_8 l0_8 c0_8 A0_9 l0_9 c0_9 a0_10 a0_11 a0_12 A0_13 l0_13 c0_13 A0_14 l0_14 c0_14 A0_15 l0_15 c0_15)) (t := 44) ?hr ?_; (case hd => rfl); (case hg => rfl); (case hr => first | (go_simp; done) | (go_simp; rfl)); intro gb110 hg w4 hbox hb; have BK110 := Aside0.mk (hbox); have GW110 := Aside0.mk ((by rw [hg]; exact below_sizeA : w.heap.size ≤ gb110)); have GE110 := GW110; replace HB := Aside0.mk (below_stepA hb); clear hb hbox hg; have hz5 := blk16 BK110.out))
   repeat (go_quiet (first | ((with_reducible refine gate_dst (N := 1) rfl ?_); refine box_event ?hg (N := 1) ?hd (cs := (B44 a0_0 A0_1 l0_1 c0_1 a0_2 a0_3 A0_4 l0_4 c0_4 a0_5 a0_6 a0_7 A0_8 l0_8 c0_8 A0_9 l0_9 c0_9 a0_10 a0_11 a0_12 A0_13 l0_13 c0_13 A0_14 l0_14 c0_14 A0_15 l0_15 c0_15)) (t := 44) ?hr ?_; (case hd => rfl); (case hg => rfl); (case hr => first | (go_simp; done) | (go_simp; rfl)); intro gb110 hg w4 hbox hb; have BK110 := Aside0.mk (hbox); have GW110 := Aside0.mk ((by rw [hg]; exact below_sizeA : w.heap.size ≤ gb110)); have GE110 := GW110; replace HB := Aside0.mk (below_stepA hb); clear hb hbox hg; have hz5 := blk16 BK110.out)); try go_wp2_with (first | ((with_reducible refine gate_dst (N := 1) rfl ?_); refine box_event ?hg (N := 1) ?hd (cs := (B44 a0_0 A0_1 l0_1 c0_1 a0_2 a0_3 A0_4 l0_4 c0_4 a0_5 a0_6 a0_7 A0_8 l0_8 c0_8 A0_9 l0_9 c0_9 a0_10 a0_11 a0_12 A0_13 l0_13 c0_13 A0_14 l0_14 c0_14 A0_15 l0_15 c0_15)) (t := 44) ?hr ?_; (case hd => rfl); (case hg => rfl); (case hr => first | (go_simp; done) | (go_simp; rfl)); intro gb110 hg w4 hbox hb; have BK110 := Aside0.mk (hbox); have GW110 := Aside0.mk ((by rw [hg]; exact below_sizeA : w.heap.size ≤ gb110)); have GE110 := GW110; replace HB := Aside0.mk (below_stepA hb); clear hb hbox hg; have hz5 := blk16 BK110.out)))
   go_ret2
   exact ⟨by first | rfl | (simp [errW_none, errW_some] <;> rfl) | (simp [*, errW_none, errW_some] <;> rfl), belowA⟩
  ·
   rw [if_neg c3] at H
   have c3b0 : (a0_5 == 2) = false := beq_eq_false_iff_ne.mpr c3
   have c3b1 : (a0_5 != 2) = true := bne_iff_ne.mpr c3
   simp only [Option.some.injEq, Prod.mk.injEq] at H
   obtain ⟨rfl, rfl⟩ := H
   go_enter Try.func39, Try.ntmps39
   go_wp2_with (first | ((with_reducible refine gate_dst (N := 1) rfl ?_); refine box_event ?hg (N := 1) ?hd (cs := (B44 a0_0 A0_1 l0_1 c0_1 a0_2 a0_3 A0_4 l0_4 c0_4 a0_5 a0_6 a0_7 A0_8 l0_8 c0_8 A0_9 l0_9 c0_9 a0_10 a0_11 a0_12 A0_13 l0_13 c0_13 A0_14 l0_14 c0_14 A0_15 l0_15 c0_15)) (t := 44) ?hr ?_; (case hd => rfl); (case hg => rfl); (case hr => first | (go_simp; done) | (go_simp; rfl)); intro gb110 hg w6 hbox hb; have BK110 := Aside0.mk (hbox); have GW110 := Aside0.mk ((by rw [hg]; exact below_sizeA : w.heap.size ≤ gb110)); have GE110 := GW110; replace HB := Aside0.mk (below_stepA hb); clear hb hbox hg; have hz7 := blk16 BK110.out))
   repeat (go_quiet (first | ((with_reducible refine gate_dst (N := 1) rfl ?_); refine box_event ?hg (N := 1) ?hd (cs := (B44 a0_0 A0_1 l0_1 c0_1 a0_2 a0_3 A0_4 l0_4 c0_4 a0_5 a0_6 a0_7 A0_8 l0_8 c0_8 A0_9 l0_9 c0_9 a0_10 a0_11 a0_12 A0_13 l0_13 c0_13 A0_14 l0_14 c0_14 A0_15 l0_15 c0_15)) (t := 44) ?hr ?_; (case hd => rfl); (case hg => rfl); (case hr => first | (go_simp; done) | (go_simp; rfl)); intro gb110 hg w6 hbox hb; have BK110 := Aside0.mk (hbox); have GW110 := Aside0.mk ((by rw [hg]; exact below_sizeA : w.heap.size ≤ gb110)); have GE110 := GW110; replace HB := Aside0.mk (below_stepA hb); clear hb hbox hg; have hz7 := blk16 BK110.out)); try go_wp2_with (first | ((with_reducible refine gate_dst (N := 1) rfl ?_); refine box_event ?hg (N := 1) ?hd (cs := (B44 a0_0 A0_1 l0_1 c0_1 a0_2 a0_3 A0_4 l0_4 c0_4 a0_5 a0_6 a0_7 A0_8 l0_8 c0_8 A0_9 l0_9 c0_9 a0_10 a0_11 a0_12 A0_13 l0_13 c0_13 A0_14 l0_14 c0_14 A0_15 l0_15 c0_15)) (t := 44) ?hr ?_; (case hd => rfl); (case hg => rfl); (case hr => first | (go_simp; done) | (go_simp; rfl)); intro gb110 hg w6 hbox hb; have BK110 := Aside0.mk (hbox); have GW110 := Aside0.mk ((by rw [hg]; exact below_sizeA : w.heap.size ≤ gb110)); have GE110 := GW110; replace HB := Aside0.mk (below_stepA hb); clear hb hbox hg; have hz7 := blk16 BK110.out)))
   go_ret2
   exact ⟨by first | rfl | (simp [errW_none, errW_some] <;> rfl) | (simp [*, errW_none, errW_some] <;> rfl), belowA⟩
 ·
  rw [if_neg c2] at H
  have c2b0 : (a0_0 == 4) = false := beq_eq_false_iff_ne.mpr c2
  have c2b1 : (a0_0 != 4) = true := bne_iff_ne.mpr c2
  simp only [Option.some.injEq, Prod.mk.injEq] at H
  obtain ⟨rfl, rfl⟩ := H
  go_enter Try.func39, Try.ntmps39
  go_wp2_with (first | ((with_reducible refine gate_dst (N := 1) rfl ?_); refine box_event ?hg (N := 1) ?hd (cs := (B44 a0_0 A0_1 l0_1 c0_1 a0_2 a0_3 A0_4 l0_4 c0_4 a0_5 a0_6 a0_7 A0_8 l0_8 c0_8 A0_9 l0_9 c0_9 a0_10 a0_11 a0_12 A0_13 l0_13 c0_13 A0_14 l0_14 c0_14 A0_15 l0_15 c0_15)) (t := 44) ?hr ?_; (case hd => rfl); (case hg => rfl); (case hr => first | (go_simp; done) | (go_simp; rfl)); intro gb110 hg w8 hbox hb; have BK110 := Aside0.mk (hbox); have GW110 := Aside0.mk ((by rw [hg]; exact below_sizeA : w.heap.size ≤ gb110)); have GE110 := GW110; replace HB := Aside0.mk (below_stepA hb); clear hb hbox hg; have hz9 := blk16 BK110.out))
  repeat (go_quiet (first | ((with_reducible refine gate_dst (N := 1) rfl ?_); refine box_event ?hg (N := 1) ?hd (cs := (B44 a0_0 A0_1 l0_1 c0_1 a0_2 a0_3 A0_4 l0_4 c0_4 a0_5 a0_6 a0_7 A0_8 l0_8 c0_8 A0_9 l0_9 c0_9 a0_10 a0_11 a0_12 A0_13 l0_13 c0_13 A0_14 l0_14 c0_14 A0_15 l0_15 c0_15)) (t := 44) ?hr ?_; (case hd => rfl); (case hg => rfl); (case hr => first | (go_simp; done) | (go_simp; rfl)); intro gb110 hg w8 hbox hb; have BK110 := Aside0.mk (hbox); have GW110 := Aside0.mk ((by rw [hg]; exact below_sizeA : w.heap.size ≤ gb110)); have GE110 := GW110; replace HB := Aside0.mk (below_stepA hb); clear hb hbox hg; have hz9 := blk16 BK110.out)); try go_wp2_with (first | ((with_reducible refine gate_dst (N := 1) rfl ?_); refine box_event ?hg (N := 1) ?hd (cs := (B44 a0_0 A0_1 l0_1 c0_1 a0_2 a0_3 A0_4 l0_4 c0_4 a0_5 a0_6 a0_7 A0_8 l0_8 c0_8 A0_9 l0_9 c0_9 a0_10 a0_11 a0_12 A0_13 l0_13 c0_13 A0_14 l0_14 c0_14 A0_15 l0_15 c0_15)) (t := 44) ?hr ?_; (case hd => rfl); (case hg => rfl); (case hr => first | (go_simp; done) | (go_simp; rfl)); intro gb110 hg w8 hbox hb; have BK110 := Aside0.mk (hbox); have GW110 := Aside0.mk ((by rw [hg]; exact below_sizeA : w.heap.size ≤ gb110)); have GE110 := GW110; replace HB := Aside0.mk (below_stepA hb); clear hb hbox hg; have hz9 := blk16 BK110.out)))
  go_ret2
  exact ⟨by first | rfl | (simp [errW_none, errW_some] <;> rfl) | (simp [*, errW_none, errW_some] <;> rfl), belowA⟩

def bounds_of_S3.f (a0_0 : Int) (l0_1 : List Int) (a0_2 : ByteArray) (a0_3 : Int) (l0_4 : List (S93)) (a0_5 : Int) (a0_6 : Int) (a0_7 : Int) (l0_8 : List Int) (l0_9 : List Int) (a0_10 : Int) (a0_11 : Int) (a0_12 : Int) (l0_13 : List (S97)) (l0_14 : List (S99)) (l0_15 : List (S50)) : Option (Int × Int) := some (mx a0_10 a0_11, 0)
set_option maxHeartbeats 8000000 in
set_option maxRecDepth 100000 in
theorem bounds_of_S3.calls (a0_0 : Int) (A0_1 : Option Addr) (c0_1 : Nat) (l0_1 : List Int) (a0_2 : ByteArray) (a0_3 : Int) (A0_4 : Option Addr) (c0_4 : Nat) (l0_4 : List (S93)) (a0_5 : Int) (a0_6 : Int) (a0_7 : Int) (A0_8 : Option Addr) (c0_8 : Nat) (l0_8 : List Int) (A0_9 : Option Addr) (c0_9 : Nat) (l0_9 : List Int) (a0_10 : Int) (a0_11 : Int) (a0_12 : Int) (A0_13 : Option Addr) (c0_13 : Nat) (l0_13 : List (S97)) (A0_14 : Option Addr) (c0_14 : Nat) (l0_14 : List (S99)) (A0_15 : Option Addr) (c0_15 : Nat) (l0_15 : List (S50)) (r1 : Int) (r2 : Int) (w : World) (hr0_1 : Kd.C (Kd.int .i64) w A0_1 l0_1.length l0_1) (hc0_1 : l0_1.length ≤ c0_1) (hr0_4 : Kd.C k93 w A0_4 l0_4.length l0_4) (hc0_4 : l0_4.length ≤ c0_4) (hr0_8 : Kd.C (Kd.int .i64) w A0_8 l0_8.length l0_8) (hc0_8 : l0_8.length ≤ c0_8) (hr0_9 : Kd.C (Kd.int .i64) w A0_9 l0_9.length l0_9) (hc0_9 : l0_9.length ≤ c0_9) (hr0_13 : Kd.C k97 w A0_13 l0_13.length l0_13) (hc0_13 : l0_13.length ≤ c0_13) (hr0_14 : Kd.C k99 w A0_14 l0_14.length l0_14) (hc0_14 : l0_14.length ≤ c0_14) (hr0_15 : Kd.C k50 w A0_15 l0_15.length l0_15) (hc0_15 : l0_15.length ≤ c0_15) (h : bounds_of_S3.f a0_0 l0_1 a0_2 a0_3 l0_4 a0_5 a0_6 a0_7 l0_8 l0_9 a0_10 a0_11 a0_12 l0_13 l0_14 l0_15 = some (r1, r2)) :
    Calls Try.prog 43 #[.agg #[.int .i64 a0_0, .slice A0_1 l0_1.length c0_1, .string a0_2, .int .i64 a0_3, .slice A0_4 l0_4.length c0_4, .int .i64 a0_5, .int .i64 a0_6, .int .i64 a0_7, .slice A0_8 l0_8.length c0_8, .slice A0_9 l0_9.length c0_9, .int .i64 a0_10, .int .i64 a0_11, .int .i64 a0_12, .slice A0_13 l0_13.length c0_13, .slice A0_14 l0_14.length c0_14, .slice A0_15 l0_15.length c0_15]] w fun e w' => e = .returned (.tuple #[.int .i64 r1, .int .i64 r2]) ∧ Below w.heap.size w w' := by
 have hu44 := Try.underlying44
 have HR0_1 := Aside0.mk hr0_1
 have HC0_1 := Aside0.mk hc0_1
 clear hr0_1 hc0_1
 have HR0_4 := Aside0.mk hr0_4
 have HC0_4 := Aside0.mk hc0_4
 clear hr0_4 hc0_4
 have HR0_8 := Aside0.mk hr0_8
 have HC0_8 := Aside0.mk hc0_8
 clear hr0_8 hc0_8
 have HR0_9 := Aside0.mk hr0_9
 have HC0_9 := Aside0.mk hc0_9
 clear hr0_9 hc0_9
 have HR0_13 := Aside0.mk hr0_13
 have HC0_13 := Aside0.mk hc0_13
 clear hr0_13 hc0_13
 have HR0_14 := Aside0.mk hr0_14
 have HC0_14 := Aside0.mk hc0_14
 clear hr0_14 hc0_14
 have HR0_15 := Aside0.mk hr0_15
 have HC0_15 := Aside0.mk hc0_15
 clear hr0_15 hc0_15
 have HB := Aside0.mk (Below.refl w.heap.size w)
 have H : (some (mx a0_10 a0_11, 0)) = some (r1, r2) := h
 clear h
 obtain ⟨ji2, hji2⟩ : ∃ j_ : Int, (mx a0_10 a0_11) = j_ := ⟨_, rfl⟩
 replace H : (some (ji2, 0)) = some (r1, r2) := by first | (rw [hji2] at H; exact H) | (simp only [hji2] at H ⊢; exact H)
 have hji2_ : (if a0_10 < a0_11 then a0_11 else a0_10) = ji2 := hji2
 simp only [Option.some.injEq, Prod.mk.injEq] at H
 obtain ⟨rfl, rfl⟩ := H
 go_enter Try.func43, Try.ntmps43
 go_wp2_with (first | ((with_reducible refine gate_dst (N := 1) rfl ?_); refine box_event ?hg (N := 1) ?hd (cs := (B44 a0_0 A0_1 l0_1 c0_1 a0_2 a0_3 A0_4 l0_4 c0_4 a0_5 a0_6 a0_7 A0_8 l0_8 c0_8 A0_9 l0_9 c0_9 a0_10 a0_11 a0_12 A0_13 l0_13 c0_13 A0_14 l0_14 c0_14 A0_15 l0_15 c0_15)) (t := 44) ?hr ?_; (case hd => rfl); (case hg => rfl); (case hr => first | (go_simp; done) | (go_simp; rfl)); intro gb117 hg w3 hbox hb; have BK117 := Aside0.mk (hbox); have GW117 := Aside0.mk ((by rw [hg]; exact below_sizeA : w.heap.size ≤ gb117)); have GE117 := GW117; replace HB := Aside0.mk (below_stepA hb); clear hb hbox hg; have hz4 := blk16 BK117.out))
 go_ret2
 exact ⟨by first | rfl | (simp [errW_none, errW_some] <;> rfl) | (simp only [← hji2]; first | rfl | (simp [errW_none, errW_some] <;> rfl)) | (simp [*, errW_none, errW_some] <;> rfl), belowA⟩

def bounds_of_S5.f (a0_0 : Int) (l0_1 : List Int) (a0_2 : ByteArray) (a0_3 : Int) (l0_4 : List (S93)) (a0_5 : Int) (a0_6 : Int) (a0_7 : Int) (l0_8 : List Int) (l0_9 : List Int) (a0_10 : Int) (a0_11 : Int) (a0_12 : Int) (l0_13 : List (S97)) (l0_14 : List (S99)) (l0_15 : List (S50)) : Option (Int × Int) := some (wrap64 (a0_12 - 1), 0)
set_option maxHeartbeats 8000000 in
set_option maxRecDepth 100000 in
theorem bounds_of_S5.calls (a0_0 : Int) (A0_1 : Option Addr) (c0_1 : Nat) (l0_1 : List Int) (a0_2 : ByteArray) (a0_3 : Int) (A0_4 : Option Addr) (c0_4 : Nat) (l0_4 : List (S93)) (a0_5 : Int) (a0_6 : Int) (a0_7 : Int) (A0_8 : Option Addr) (c0_8 : Nat) (l0_8 : List Int) (A0_9 : Option Addr) (c0_9 : Nat) (l0_9 : List Int) (a0_10 : Int) (a0_11 : Int) (a0_12 : Int) (A0_13 : Option Addr) (c0_13 : Nat) (l0_13 : List (S97)) (A0_14 : Option Addr) (c0_14 : Nat) (l0_14 : List (S99)) (A0_15 : Option Addr) (c0_15 : Nat) (l0_15 : List (S50)) (r1 : Int) (r2 : Int) (w : World) (hr0_1 : Kd.C (Kd.int .i64) w A0_1 l0_1.length l0_1) (hc0_1 : l0_1.length ≤ c0_1) (hr0_4 : Kd.C k93 w A0_4 l0_4.length l0_4) (hc0_4 : l0_4.length ≤ c0_4) (hr0_8 : Kd.C (Kd.int .i64) w A0_8 l0_8.length l0_8) (hc0_8 : l0_8.length ≤ c0_8) (hr0_9 : Kd.C (Kd.int .i64) w A0_9 l0_9.length l0_9) (hc0_9 : l0_9.length ≤ c0_9) (hr0_13 : Kd.C k97 w A0_13 l0_13.length l0_13) (hc0_13 : l0_13.length ≤ c0_13) (hr0_14 : Kd.C k99 w A0_14 l0_14.length l0_14) (hc0_14 : l0_14.length ≤ c0_14) (hr0_15 : Kd.C k50 w A0_15 l0_15.length l0_15) (hc0_15 : l0_15.length ≤ c0_15) (h : bounds_of_S5.f a0_0 l0_1 a0_2 a0_3 l0_4 a0_5 a0_6 a0_7 l0_8 l0_9 a0_10 a0_11 a0_12 l0_13 l0_14 l0_15 = some (r1, r2)) :
    Calls Try.prog 45 #[.agg #[.int .i64 a0_0, .slice A0_1 l0_1.length c0_1, .string a0_2, .int .i64 a0_3, .slice A0_4 l0_4.length c0_4, .int .i64 a0_5, .int .i64 a0_6, .int .i64 a0_7, .slice A0_8 l0_8.length c0_8, .slice A0_9 l0_9.length c0_9, .int .i64 a0_10, .int .i64 a0_11, .int .i64 a0_12, .slice A0_13 l0_13.length c0_13, .slice A0_14 l0_14.length c0_14, .slice A0_15 l0_15.length c0_15]] w fun e w' => e = .returned (.tuple #[.int .i64 r1, .int .i64 r2]) ∧ Below w.heap.size w w' := by
 have hu44 := Try.underlying44
 have HR0_1 := Aside0.mk hr0_1
 have HC0_1 := Aside0.mk hc0_1
 clear hr0_1 hc0_1
 have HR0_4 := Aside0.mk hr0_4
 have HC0_4 := Aside0.mk hc0_4
 clear hr0_4 hc0_4
 have HR0_8 := Aside0.mk hr0_8
 have HC0_8 := Aside0.mk hc0_8
 clear hr0_8 hc0_8
 have HR0_9 := Aside0.mk hr0_9
 have HC0_9 := Aside0.mk hc0_9
 clear hr0_9 hc0_9
 have HR0_13 := Aside0.mk hr0_13
 have HC0_13 := Aside0.mk hc0_13
 clear hr0_13 hc0_13
 have HR0_14 := Aside0.mk hr0_14
 have HC0_14 := Aside0.mk hc0_14
 clear hr0_14 hc0_14
 have HR0_15 := Aside0.mk hr0_15
 have HC0_15 := Aside0.mk hc0_15
 clear hr0_15 hc0_15
 have HB := Aside0.mk (Below.refl w.heap.size w)
 have H : (some (wrap64 (a0_12 - 1), 0)) = some (r1, r2) := h
 clear h
 simp only [Option.some.injEq, Prod.mk.injEq] at H
 obtain ⟨rfl, rfl⟩ := H
 go_enter Try.func45, Try.ntmps45
 go_wp2_with (first | ((with_reducible refine gate_dst (N := 1) rfl ?_); refine box_event ?hg (N := 1) ?hd (cs := (B44 a0_0 A0_1 l0_1 c0_1 a0_2 a0_3 A0_4 l0_4 c0_4 a0_5 a0_6 a0_7 A0_8 l0_8 c0_8 A0_9 l0_9 c0_9 a0_10 a0_11 a0_12 A0_13 l0_13 c0_13 A0_14 l0_14 c0_14 A0_15 l0_15 c0_15)) (t := 44) ?hr ?_; (case hd => rfl); (case hg => rfl); (case hr => first | (go_simp; done) | (go_simp; rfl)); intro gb120 hg w2 hbox hb; have BK120 := Aside0.mk (hbox); have GW120 := Aside0.mk ((by rw [hg]; exact below_sizeA : w.heap.size ≤ gb120)); have GE120 := GW120; replace HB := Aside0.mk (below_stepA hb); clear hb hbox hg; have hz3 := blk16 BK120.out))
 go_ret2
 exact ⟨by first | rfl | (simp [errW_none, errW_some] <;> rfl) | (simp [*, errW_none, errW_some] <;> rfl), belowA⟩

def bounds_of_S7.f (a0_0 : Int) (l0_1 : List Int) (a0_2 : ByteArray) (a0_3 : Int) (l0_4 : List (S93)) (a0_5 : Int) (a0_6 : Int) (a0_7 : Int) (l0_8 : List Int) (l0_9 : List Int) (a0_10 : Int) (a0_11 : Int) (a0_12 : Int) (l0_13 : List (S97)) (l0_14 : List (S99)) (l0_15 : List (S50)) : Option (Int × Int) := some (wrap64 (a0_6 - 1), 0)
set_option maxHeartbeats 8000000 in
set_option maxRecDepth 100000 in
theorem bounds_of_S7.calls (a0_0 : Int) (A0_1 : Option Addr) (c0_1 : Nat) (l0_1 : List Int) (a0_2 : ByteArray) (a0_3 : Int) (A0_4 : Option Addr) (c0_4 : Nat) (l0_4 : List (S93)) (a0_5 : Int) (a0_6 : Int) (a0_7 : Int) (A0_8 : Option Addr) (c0_8 : Nat) (l0_8 : List Int) (A0_9 : Option Addr) (c0_9 : Nat) (l0_9 : List Int) (a0_10 : Int) (a0_11 : Int) (a0_12 : Int) (A0_13 : Option Addr) (c0_13 : Nat) (l0_13 : List (S97)) (A0_14 : Option Addr) (c0_14 : Nat) (l0_14 : List (S99)) (A0_15 : Option Addr) (c0_15 : Nat) (l0_15 : List (S50)) (r1 : Int) (r2 : Int) (w : World) (hr0_1 : Kd.C (Kd.int .i64) w A0_1 l0_1.length l0_1) (hc0_1 : l0_1.length ≤ c0_1) (hr0_4 : Kd.C k93 w A0_4 l0_4.length l0_4) (hc0_4 : l0_4.length ≤ c0_4) (hr0_8 : Kd.C (Kd.int .i64) w A0_8 l0_8.length l0_8) (hc0_8 : l0_8.length ≤ c0_8) (hr0_9 : Kd.C (Kd.int .i64) w A0_9 l0_9.length l0_9) (hc0_9 : l0_9.length ≤ c0_9) (hr0_13 : Kd.C k97 w A0_13 l0_13.length l0_13) (hc0_13 : l0_13.length ≤ c0_13) (hr0_14 : Kd.C k99 w A0_14 l0_14.length l0_14) (hc0_14 : l0_14.length ≤ c0_14) (hr0_15 : Kd.C k50 w A0_15 l0_15.length l0_15) (hc0_15 : l0_15.length ≤ c0_15) (h : bounds_of_S7.f a0_0 l0_1 a0_2 a0_3 l0_4 a0_5 a0_6 a0_7 l0_8 l0_9 a0_10 a0_11 a0_12 l0_13 l0_14 l0_15 = some (r1, r2)) :
    Calls Try.prog 47 #[.agg #[.int .i64 a0_0, .slice A0_1 l0_1.length c0_1, .string a0_2, .int .i64 a0_3, .slice A0_4 l0_4.length c0_4, .int .i64 a0_5, .int .i64 a0_6, .int .i64 a0_7, .slice A0_8 l0_8.length c0_8, .slice A0_9 l0_9.length c0_9, .int .i64 a0_10, .int .i64 a0_11, .int .i64 a0_12, .slice A0_13 l0_13.length c0_13, .slice A0_14 l0_14.length c0_14, .slice A0_15 l0_15.length c0_15]] w fun e w' => e = .returned (.tuple #[.int .i64 r1, .int .i64 r2]) ∧ Below w.heap.size w w' := by
 have hu44 := Try.underlying44
 have HR0_1 := Aside0.mk hr0_1
 have HC0_1 := Aside0.mk hc0_1
 clear hr0_1 hc0_1
 have HR0_4 := Aside0.mk hr0_4
 have HC0_4 := Aside0.mk hc0_4
 clear hr0_4 hc0_4
 have HR0_8 := Aside0.mk hr0_8
 have HC0_8 := Aside0.mk hc0_8
 clear hr0_8 hc0_8
 have HR0_9 := Aside0.mk hr0_9
 have HC0_9 := Aside0.mk hc0_9
 clear hr0_9 hc0_9
 have HR0_13 := Aside0.mk hr0_13
 have HC0_13 := Aside0.mk hc0_13
 clear hr0_13 hc0_13
 have HR0_14 := Aside0.mk hr0_14
 have HC0_14 := Aside0.mk hc0_14
 clear hr0_14 hc0_14
 have HR0_15 := Aside0.mk hr0_15
 have HC0_15 := Aside0.mk hc0_15
 clear hr0_15 hc0_15
 have HB := Aside0.mk (Below.refl w.heap.size w)
 have H : (some (wrap64 (a0_6 - 1), 0)) = some (r1, r2) := h
 clear h
 simp only [Option.some.injEq, Prod.mk.injEq] at H
 obtain ⟨rfl, rfl⟩ := H
 go_enter Try.func47, Try.ntmps47
 go_wp2_with (first | ((with_reducible refine gate_dst (N := 1) rfl ?_); refine box_event ?hg (N := 1) ?hd (cs := (B44 a0_0 A0_1 l0_1 c0_1 a0_2 a0_3 A0_4 l0_4 c0_4 a0_5 a0_6 a0_7 A0_8 l0_8 c0_8 A0_9 l0_9 c0_9 a0_10 a0_11 a0_12 A0_13 l0_13 c0_13 A0_14 l0_14 c0_14 A0_15 l0_15 c0_15)) (t := 44) ?hr ?_; (case hd => rfl); (case hg => rfl); (case hr => first | (go_simp; done) | (go_simp; rfl)); intro gb124 hg w2 hbox hb; have BK124 := Aside0.mk (hbox); have GW124 := Aside0.mk ((by rw [hg]; exact below_sizeA : w.heap.size ≤ gb124)); have GE124 := GW124; replace HB := Aside0.mk (below_stepA hb); clear hb hbox hg; have hz3 := blk16 BK124.out))
 go_ret2
 exact ⟨by first | rfl | (simp [errW_none, errW_some] <;> rfl) | (simp [*, errW_none, errW_some] <;> rfl), belowA⟩

set_option maxHeartbeats 8000000 in
set_option maxRecDepth 100000 in
theorem bounds_Own.gen (cs : Array Value) (op : Int) (hsz : 16 = cs.size) (hop : cs[0]? = some (.int .i64 op)) (r1 : Int) (r2 : Option Nat) (f : Nat) (r4 : Bool) (hof : bounds_of.f op = some (r1, r2, some f, r4, true))
    (fn : Func) (hf : Try.prog.funcs[f]? = some fn) (hname : (fn.name == "runtime.NumGoroutine") = false) (hb : fn.body.isSome = true) (s t : Int) (w : World)
    (hbd : ∀ W, Below w.heap.size w W → Calls Try.prog 12 #[.agg cs] W fun e w' => e = .returned (.bool true) ∧ Below W.heap.size W w')
    (hcall : ∀ W, Below w.heap.size w W → Calls Try.prog f #[.agg cs] W fun e w' => e = .returned (.tuple #[.int .i64 s, .int .i64 t]) ∧ Below W.heap.size W w') :
    Calls Try.prog 17 #[.agg cs] w fun e w' => e = .returned (.tuple #[.int .i64 s, .int .i64 t]) ∧ Below w.heap.size w w' := by
  have hu44 := Try.underlying44
  have hu65 := Try.underlying65
  have HSZ := Aside0.mk hsz
  have HOP := Aside0.mk hop
  have HOF := Aside0.mk hof
  have HF := Aside0.mk hf
  have HNM := Aside0.mk hname
  have HBD := Aside0.mk hb
  have HC := Aside0.mk hcall
  have HBQ := Aside0.mk hbd
  clear hsz hop hof hf hname hb hcall hbd
  go_enter Try.func17, Try.ntmps17
  go_wp2_with (first
    | ((with_reducible refine gate_dst (N := 1) rfl ?_); refine box_event rfl (N := 1) rfl (cs := cs) (t := 44) (by first | (go_simp; done) | (go_simp; rfl)) ?_; intro g1 hg1 w1 hb1 hB1; have HG1 := Aside0.mk (show w.heap.size ≤ g1 by rw [hg1]; exact Nat.le_refl _); have HK1 := Aside0.mk hb1; have HB1 := Aside0.mk hB1; have hc1 := cell_blk hb1 HOP.out; clear hg1 hb1 hB1)
    | ((with_reducible refine gate_dst (N := 6) rfl ?_); refine loadPart_event rfl rfl cs.toList _ rfl HK1.out Try.underlying44 rfl (by rw [Array.length_toList, ← HSZ.out]; kernel_rfl) (by intro j v hv; rw [Nat.zero_add]; rw [← Array.getElem?_toList]; exact hv) ?_)
    | ((with_reducible refine gate_dst (N := 7) rfl ?_); refine goesL_ (some 7) rfl rfl Try.func12 (by kernel_rfl) rfl #[.agg cs] rfl (by first | done | rfl | (simp only [List.map_toArray, List.map_cons, List.map_nil]; rfl)) ?_; refine (HBQ.out _ HB1.out).mono ?_; rintro e w2 ⟨rfl, hb⟩; refine ⟨_, rfl, ?_⟩; have HK2 := Aside0.mk (blk_below HK1.out hb); have hc2 := cell_blk HK2.out HOP.out; have HB2 := Aside0.mk (below_step HB1.out hb); clear hb hc1 HK1 HB1)
    | ((with_reducible refine gate_callee (f := 27) rfl ?_); refine goesL_ (some 12) rfl rfl Try.func27 (by kernel_rfl) rfl #[.int .i64 op] rfl (by first | done | rfl | (simp only [List.map_toArray, List.map_cons, List.map_nil]; rfl)) ?_; (with_reducible refine (bounds_of.calls op r1 r2 (some f) r4 true _ HOF.out).mono ?_); rintro e w3 ⟨rfl, hb⟩; refine ⟨_, rfl, ?_⟩; have HK3 := Aside0.mk (blk_below HK2.out hb); have HL3 := Aside0.mk (Nat.lt_of_lt_of_le (blk_lt HK2.out) hb.size); have HB3 := Aside0.mk (below_step HB2.out hb); clear hb hc2 HK2 HB2)
    | ((with_reducible refine gate_dst (N := 4) rfl ?_); refine box_event rfl (N := 4) rfl (cs := #[.int .i64 0, .nilFunc, .nilFunc, .bool false]) (t := 65) (by first | (go_simp; done) | (go_simp; rfl)) ?_; intro g4 hg4 w4 hb4 hB4; have HG4 := Aside0.mk (show w.heap.size ≤ g4 by rw [hg4]; exact HB3.out.size); have HN4 := Aside0.mk (show g1 ≠ g4 by rw [hg4]; exact Nat.ne_of_lt HL3.out); have HK4 := Aside0.mk hb4; have HB4 := Aside0.mk (below_step HB3.out hB4); have HK1 := Aside0.mk (blk_below HK3.out hB4); clear hg4 hb4 hB4 HK3 HB3 HL3)
    | ((with_reducible refine gate_store (t := 65) (p := 4) rfl ?_); refine storeRow_event (new := #[.int .i64 r1, fnV r2, fnV (some f), .bool r4]) rfl rfl rfl rfl rfl HK4.out (by kernel_rfl) rfl (ofOne r1 r2 (some f) r4) ?_; intro w5 hk5 hf5 hB5; have HK5 := Aside0.mk hk5; have HK1' := Aside0.mk ((hf5 _ HN4.out).trans HK1.out); have HB5 := Aside0.mk (hB5 _ _ HG4.out HB4.out); have hc5 : w5.cell? ⟨g4, 2, none⟩ = some (.func (.func f) #[] #[]) := cell_blk hk5 rfl; clear hk5 hf5 hB5 HB4 HK4 HK1)
    | ((with_reducible refine gate_dst (N := 17) rfl ?_); refine loadPart_event rfl rfl cs.toList _ rfl HK1'.out Try.underlying44 rfl (by rw [Array.length_toList, ← HSZ.out]; kernel_rfl) (by intro j v hv; rw [Nat.zero_add]; rw [← Array.getElem?_toList]; exact hv) ?_)
    | ((with_reducible refine gate_dst (N := 18) rfl ?_); refine goesV_ (some 18) rfl rfl HF.out HNM.out HBD.out #[.agg cs] rfl rfl (by first | done | rfl | (simp only [List.map_toArray, List.map_cons, List.map_nil]; rfl)) ?_; refine (HC.out _ HB5.out).mono ?_; rintro e w6 ⟨rfl, hb⟩; refine ⟨_, rfl, ?_⟩; have HB6 := Aside0.mk (below_step HB5.out hb); clear hb))
  go_ret2
  exact ⟨rfl, HB6.out⟩
set_option maxHeartbeats 8000000 in
set_option maxRecDepth 100000 in
theorem bounds_Own.gen0 (cs : Array Value) (hsz : 16 = cs.size) (w : World)
    (hbd : ∀ W, Below w.heap.size w W → Calls Try.prog 12 #[.agg cs] W fun e w' => e = .returned (.bool false) ∧ Below W.heap.size W w') :
    Calls Try.prog 17 #[.agg cs] w fun e w' => e = .returned (.tuple #[.int .i64 0, .int .i64 0]) ∧ Below w.heap.size w w' := by
 have hu44 := Try.underlying44
 have HSZ := Aside0.mk hsz
 have HBQ := Aside0.mk hbd
 clear hsz hbd
 go_enter Try.func17, Try.ntmps17
 go_wp2_with (first
  | ((with_reducible refine gate_dst (N := 1) rfl ?_); refine box_event rfl (N := 1) rfl (cs := cs) (t := 44) (by first | (go_simp; done) | (go_simp; rfl)) ?_; intro g1 hg1 w1 hb1 hB1; have HK1 := Aside0.mk hb1; have HB1 := Aside0.mk hB1; clear hg1 hb1 hB1)
  | ((with_reducible refine gate_dst (N := 6) rfl ?_); refine loadPart_event rfl rfl cs.toList _ rfl HK1.out Try.underlying44 rfl (by rw [Array.length_toList, ← HSZ.out]; kernel_rfl) (by intro j v hv; rw [Nat.zero_add]; rw [← Array.getElem?_toList]; exact hv) ?_)
  | ((with_reducible refine gate_dst (N := 7) rfl ?_); refine goesL_ (some 7) rfl rfl Try.func12 (by kernel_rfl) rfl #[.agg cs] rfl (by first | done | rfl | (simp only [List.map_toArray, List.map_cons, List.map_nil]; rfl)) ?_; refine (HBQ.out _ HB1.out).mono ?_; rintro e w2 ⟨rfl, hb⟩; refine ⟨_, rfl, ?_⟩; have HB2 := Aside0.mk (below_step HB1.out hb); clear hb))
 go_ret2
 exact ⟨rfl, HB2.out⟩

def bounds_Own.f (a0_0 : Int) (l0_1 : List Int) (a0_2 : ByteArray) (a0_3 : Int) (l0_4 : List (S93)) (a0_5 : Int) (a0_6 : Int) (a0_7 : Int) (l0_8 : List Int) (l0_9 : List Int) (a0_10 : Int) (a0_11 : Int) (a0_12 : Int) (l0_13 : List (S97)) (l0_14 : List (S99)) (l0_15 : List (S50)) : Option (Int × Int) :=
 (bounds_Bounded.f a0_0 l0_1 a0_2 a0_3 l0_4 a0_5 a0_6 a0_7 l0_8 l0_9 a0_10 a0_11 a0_12 l0_13 l0_14 l0_15).bind fun b => if b = true then (
 if a0_0 = 0 then bounds_none.f a0_0 l0_1 a0_2 a0_3 l0_4 a0_5 a0_6 a0_7 l0_8 l0_9 a0_10 a0_11 a0_12 l0_13 l0_14 l0_15
 else if a0_0 = 1 then bounds_none.f a0_0 l0_1 a0_2 a0_3 l0_4 a0_5 a0_6 a0_7 l0_8 l0_9 a0_10 a0_11 a0_12 l0_13 l0_14 l0_15
 else if a0_0 = 2 then bounds_none.f a0_0 l0_1 a0_2 a0_3 l0_4 a0_5 a0_6 a0_7 l0_8 l0_9 a0_10 a0_11 a0_12 l0_13 l0_14 l0_15
 else if a0_0 = 3 then bounds_none.f a0_0 l0_1 a0_2 a0_3 l0_4 a0_5 a0_6 a0_7 l0_8 l0_9 a0_10 a0_11 a0_12 l0_13 l0_14 l0_15
 else if a0_0 = 4 then bounds_block.f a0_0 l0_1 a0_2 a0_3 l0_4 a0_5 a0_6 a0_7 l0_8 l0_9 a0_10 a0_11 a0_12 l0_13 l0_14 l0_15
 else if a0_0 = 5 then bounds_block.f a0_0 l0_1 a0_2 a0_3 l0_4 a0_5 a0_6 a0_7 l0_8 l0_9 a0_10 a0_11 a0_12 l0_13 l0_14 l0_15
 else if a0_0 = 6 then bounds_of_S3.f a0_0 l0_1 a0_2 a0_3 l0_4 a0_5 a0_6 a0_7 l0_8 l0_9 a0_10 a0_11 a0_12 l0_13 l0_14 l0_15
 else if a0_0 = 7 then bounds_of_S5.f a0_0 l0_1 a0_2 a0_3 l0_4 a0_5 a0_6 a0_7 l0_8 l0_9 a0_10 a0_11 a0_12 l0_13 l0_14 l0_15
 else bounds_of_S7.f a0_0 l0_1 a0_2 a0_3 l0_4 a0_5 a0_6 a0_7 l0_8 l0_9 a0_10 a0_11 a0_12 l0_13 l0_14 l0_15) else some (0, 0)

set_option maxRecDepth 100000 in
theorem bounds_Own.calls (a0_0 : Int) (A0_1 : Option Addr) (c0_1 : Nat) (l0_1 : List Int) (a0_2 : ByteArray) (a0_3 : Int) (A0_4 : Option Addr) (c0_4 : Nat) (l0_4 : List (S93)) (a0_5 : Int) (a0_6 : Int) (a0_7 : Int) (A0_8 : Option Addr) (c0_8 : Nat) (l0_8 : List Int) (A0_9 : Option Addr) (c0_9 : Nat) (l0_9 : List Int) (a0_10 : Int) (a0_11 : Int) (a0_12 : Int) (A0_13 : Option Addr) (c0_13 : Nat) (l0_13 : List (S97)) (A0_14 : Option Addr) (c0_14 : Nat) (l0_14 : List (S99)) (A0_15 : Option Addr) (c0_15 : Nat) (l0_15 : List (S50)) (r1 : Int) (r2 : Int) (w : World) (hr0_1 : Kd.C (Kd.int .i64) w A0_1 l0_1.length l0_1) (hc0_1 : l0_1.length ≤ c0_1) (hr0_4 : Kd.C k93 w A0_4 l0_4.length l0_4) (hc0_4 : l0_4.length ≤ c0_4) (hr0_8 : Kd.C (Kd.int .i64) w A0_8 l0_8.length l0_8) (hc0_8 : l0_8.length ≤ c0_8) (hr0_9 : Kd.C (Kd.int .i64) w A0_9 l0_9.length l0_9) (hc0_9 : l0_9.length ≤ c0_9) (hr0_13 : Kd.C k97 w A0_13 l0_13.length l0_13) (hc0_13 : l0_13.length ≤ c0_13) (hr0_14 : Kd.C k99 w A0_14 l0_14.length l0_14) (hc0_14 : l0_14.length ≤ c0_14) (hr0_15 : Kd.C k50 w A0_15 l0_15.length l0_15) (hc0_15 : l0_15.length ≤ c0_15) (h : bounds_Own.f a0_0 l0_1 a0_2 a0_3 l0_4 a0_5 a0_6 a0_7 l0_8 l0_9 a0_10 a0_11 a0_12 l0_13 l0_14 l0_15 = some (r1, r2)) :
  Calls Try.prog 17 #[.agg (B44 a0_0 A0_1 l0_1 c0_1 a0_2 a0_3 A0_4 l0_4 c0_4 a0_5 a0_6 a0_7 A0_8 l0_8 c0_8 A0_9 l0_9 c0_9 a0_10 a0_11 a0_12 A0_13 l0_13 c0_13 A0_14 l0_14 c0_14 A0_15 l0_15 c0_15)] w fun e w' => e = .returned (.tuple #[.int .i64 r1, .int .i64 r2]) ∧ Below w.heap.size w w' := by
 have hbd : ∀ b, bounds_Bounded.f a0_0 l0_1 a0_2 a0_3 l0_4 a0_5 a0_6 a0_7 l0_8 l0_9 a0_10 a0_11 a0_12 l0_13 l0_14 l0_15 = some b → ∀ W, Below w.heap.size w W → Calls Try.prog 12 _ W _ := fun b hb W hW => bounds_Bounded.calls a0_0 A0_1 c0_1 l0_1 a0_2 a0_3 A0_4 c0_4 l0_4 a0_5 a0_6 a0_7 A0_8 c0_8 l0_8 A0_9 c0_9 l0_9 a0_10 a0_11 a0_12 A0_13 c0_13 l0_13 A0_14 c0_14 l0_14 A0_15 c0_15 l0_15 b W (Kd.C_below hr0_1 hW) hc0_1 (Kd.C_below hr0_4 hW) hc0_4 (Kd.C_below hr0_8 hW) hc0_8 (Kd.C_below hr0_9 hW) hc0_9 (Kd.C_below hr0_13 hW) hc0_13 (Kd.C_below hr0_14 hW) hc0_14 (Kd.C_below hr0_15 hW) hc0_15 hb
 unfold bounds_Own.f at h
 obtain ⟨b, hb, h⟩ := Option.bind_eq_some_iff.mp h
 cases b with
 | false =>
  rw [if_neg (by decide)] at h
  obtain ⟨rfl, rfl⟩ : 0 = r1 ∧ 0 = r2 := by simpa using h
  exact bounds_Own.gen0 _ rfl w (hbd false hb)
 | true =>
  rw [if_pos rfl] at h
  have hq := hbd true hb
  by_cases e0 : a0_0 = 0
  ·
   subst e0
   have h' : bounds_none.f 0 l0_1 a0_2 a0_3 l0_4 a0_5 a0_6 a0_7 l0_8 l0_9 a0_10 a0_11 a0_12 l0_13 l0_14 l0_15 = some (r1, r2) := by simpa using h
   exact bounds_Own.gen _ 0 rfl rfl 0 (some 36) 37 false rfl _ Try.func37 (by kernel_rfl) rfl r1 r2 w hq (fun W hb => bounds_none.calls 0 A0_1 c0_1 l0_1 a0_2 a0_3 A0_4 c0_4 l0_4 a0_5 a0_6 a0_7 A0_8 c0_8 l0_8 A0_9 c0_9 l0_9 a0_10 a0_11 a0_12 A0_13 c0_13 l0_13 A0_14 c0_14 l0_14 A0_15 c0_15 l0_15 r1 r2 W (Kd.C_below hr0_1 hb) hc0_1 (Kd.C_below hr0_4 hb) hc0_4 (Kd.C_below hr0_8 hb) hc0_8 (Kd.C_below hr0_9 hb) hc0_9 (Kd.C_below hr0_13 hb) hc0_13 (Kd.C_below hr0_14 hb) hc0_14 (Kd.C_below hr0_15 hb) hc0_15 h')
  by_cases e1 : a0_0 = 1
  ·
   subst e1
   have h' : bounds_none.f 1 l0_1 a0_2 a0_3 l0_4 a0_5 a0_6 a0_7 l0_8 l0_9 a0_10 a0_11 a0_12 l0_13 l0_14 l0_15 = some (r1, r2) := by simpa using h
   exact bounds_Own.gen _ 1 rfl rfl 1 (some 36) 37 false rfl _ Try.func37 (by kernel_rfl) rfl r1 r2 w hq (fun W hb => bounds_none.calls 1 A0_1 c0_1 l0_1 a0_2 a0_3 A0_4 c0_4 l0_4 a0_5 a0_6 a0_7 A0_8 c0_8 l0_8 A0_9 c0_9 l0_9 a0_10 a0_11 a0_12 A0_13 c0_13 l0_13 A0_14 c0_14 l0_14 A0_15 c0_15 l0_15 r1 r2 W (Kd.C_below hr0_1 hb) hc0_1 (Kd.C_below hr0_4 hb) hc0_4 (Kd.C_below hr0_8 hb) hc0_8 (Kd.C_below hr0_9 hb) hc0_9 (Kd.C_below hr0_13 hb) hc0_13 (Kd.C_below hr0_14 hb) hc0_14 (Kd.C_below hr0_15 hb) hc0_15 h')
  by_cases e2 : a0_0 = 2
  ·
   subst e2
   have h' : bounds_none.f 2 l0_1 a0_2 a0_3 l0_4 a0_5 a0_6 a0_7 l0_8 l0_9 a0_10 a0_11 a0_12 l0_13 l0_14 l0_15 = some (r1, r2) := by simpa using h
   exact bounds_Own.gen _ 2 rfl rfl 1 (some 36) 37 false rfl _ Try.func37 (by kernel_rfl) rfl r1 r2 w hq (fun W hb => bounds_none.calls 2 A0_1 c0_1 l0_1 a0_2 a0_3 A0_4 c0_4 l0_4 a0_5 a0_6 a0_7 A0_8 c0_8 l0_8 A0_9 c0_9 l0_9 a0_10 a0_11 a0_12 A0_13 c0_13 l0_13 A0_14 c0_14 l0_14 A0_15 c0_15 l0_15 r1 r2 W (Kd.C_below hr0_1 hb) hc0_1 (Kd.C_below hr0_4 hb) hc0_4 (Kd.C_below hr0_8 hb) hc0_8 (Kd.C_below hr0_9 hb) hc0_9 (Kd.C_below hr0_13 hb) hc0_13 (Kd.C_below hr0_14 hb) hc0_14 (Kd.C_below hr0_15 hb) hc0_15 h')
  by_cases e3 : a0_0 = 3
  ·
   subst e3
   have h' : bounds_none.f 3 l0_1 a0_2 a0_3 l0_4 a0_5 a0_6 a0_7 l0_8 l0_9 a0_10 a0_11 a0_12 l0_13 l0_14 l0_15 = some (r1, r2) := by simpa using h
   exact bounds_Own.gen _ 3 rfl rfl 2 (some 36) 37 false rfl _ Try.func37 (by kernel_rfl) rfl r1 r2 w hq (fun W hb => bounds_none.calls 3 A0_1 c0_1 l0_1 a0_2 a0_3 A0_4 c0_4 l0_4 a0_5 a0_6 a0_7 A0_8 c0_8 l0_8 A0_9 c0_9 l0_9 a0_10 a0_11 a0_12 A0_13 c0_13 l0_13 A0_14 c0_14 l0_14 A0_15 c0_15 l0_15 r1 r2 W (Kd.C_below hr0_1 hb) hc0_1 (Kd.C_below hr0_4 hb) hc0_4 (Kd.C_below hr0_8 hb) hc0_8 (Kd.C_below hr0_9 hb) hc0_9 (Kd.C_below hr0_13 hb) hc0_13 (Kd.C_below hr0_14 hb) hc0_14 (Kd.C_below hr0_15 hb) hc0_15 h')
  by_cases e4 : a0_0 = 4
  ·
   subst e4
   have h' : bounds_block.f 4 l0_1 a0_2 a0_3 l0_4 a0_5 a0_6 a0_7 l0_8 l0_9 a0_10 a0_11 a0_12 l0_13 l0_14 l0_15 = some (r1, r2) := by simpa using h
   exact bounds_Own.gen _ 4 rfl rfl 1 (some 38) 39 true rfl _ Try.func39 (by kernel_rfl) rfl r1 r2 w hq (fun W hb => bounds_block.calls 4 A0_1 c0_1 l0_1 a0_2 a0_3 A0_4 c0_4 l0_4 a0_5 a0_6 a0_7 A0_8 c0_8 l0_8 A0_9 c0_9 l0_9 a0_10 a0_11 a0_12 A0_13 c0_13 l0_13 A0_14 c0_14 l0_14 A0_15 c0_15 l0_15 r1 r2 W (Kd.C_below hr0_1 hb) hc0_1 (Kd.C_below hr0_4 hb) hc0_4 (Kd.C_below hr0_8 hb) hc0_8 (Kd.C_below hr0_9 hb) hc0_9 (Kd.C_below hr0_13 hb) hc0_13 (Kd.C_below hr0_14 hb) hc0_14 (Kd.C_below hr0_15 hb) hc0_15 h')
  by_cases e5 : a0_0 = 5
  ·
   subst e5
   have h' : bounds_block.f 5 l0_1 a0_2 a0_3 l0_4 a0_5 a0_6 a0_7 l0_8 l0_9 a0_10 a0_11 a0_12 l0_13 l0_14 l0_15 = some (r1, r2) := by simpa using h
   exact bounds_Own.gen _ 5 rfl rfl 1 (some 40) 39 true rfl _ Try.func39 (by kernel_rfl) rfl r1 r2 w hq (fun W hb => bounds_block.calls 5 A0_1 c0_1 l0_1 a0_2 a0_3 A0_4 c0_4 l0_4 a0_5 a0_6 a0_7 A0_8 c0_8 l0_8 A0_9 c0_9 l0_9 a0_10 a0_11 a0_12 A0_13 c0_13 l0_13 A0_14 c0_14 l0_14 A0_15 c0_15 l0_15 r1 r2 W (Kd.C_below hr0_1 hb) hc0_1 (Kd.C_below hr0_4 hb) hc0_4 (Kd.C_below hr0_8 hb) hc0_8 (Kd.C_below hr0_9 hb) hc0_9 (Kd.C_below hr0_13 hb) hc0_13 (Kd.C_below hr0_14 hb) hc0_14 (Kd.C_below hr0_15 hb) hc0_15 h')
  by_cases e6 : a0_0 = 6
  ·
   subst e6
   have h' : bounds_of_S3.f 6 l0_1 a0_2 a0_3 l0_4 a0_5 a0_6 a0_7 l0_8 l0_9 a0_10 a0_11 a0_12 l0_13 l0_14 l0_15 = some (r1, r2) := by simpa using h
   exact bounds_Own.gen _ 6 rfl rfl 2 (some 42) 43 true rfl _ Try.func43 (by kernel_rfl) rfl r1 r2 w hq (fun W hb => bounds_of_S3.calls 6 A0_1 c0_1 l0_1 a0_2 a0_3 A0_4 c0_4 l0_4 a0_5 a0_6 a0_7 A0_8 c0_8 l0_8 A0_9 c0_9 l0_9 a0_10 a0_11 a0_12 A0_13 c0_13 l0_13 A0_14 c0_14 l0_14 A0_15 c0_15 l0_15 r1 r2 W (Kd.C_below hr0_1 hb) hc0_1 (Kd.C_below hr0_4 hb) hc0_4 (Kd.C_below hr0_8 hb) hc0_8 (Kd.C_below hr0_9 hb) hc0_9 (Kd.C_below hr0_13 hb) hc0_13 (Kd.C_below hr0_14 hb) hc0_14 (Kd.C_below hr0_15 hb) hc0_15 h')
  by_cases e7 : a0_0 = 7
  ·
   subst e7
   have h' : bounds_of_S5.f 7 l0_1 a0_2 a0_3 l0_4 a0_5 a0_6 a0_7 l0_8 l0_9 a0_10 a0_11 a0_12 l0_13 l0_14 l0_15 = some (r1, r2) := by simpa using h
   exact bounds_Own.gen _ 7 rfl rfl 2 (some 44) 45 true rfl _ Try.func45 (by kernel_rfl) rfl r1 r2 w hq (fun W hb => bounds_of_S5.calls 7 A0_1 c0_1 l0_1 a0_2 a0_3 A0_4 c0_4 l0_4 a0_5 a0_6 a0_7 A0_8 c0_8 l0_8 A0_9 c0_9 l0_9 a0_10 a0_11 a0_12 A0_13 c0_13 l0_13 A0_14 c0_14 l0_14 A0_15 c0_15 l0_15 r1 r2 W (Kd.C_below hr0_1 hb) hc0_1 (Kd.C_below hr0_4 hb) hc0_4 (Kd.C_below hr0_8 hb) hc0_8 (Kd.C_below hr0_9 hb) hc0_9 (Kd.C_below hr0_13 hb) hc0_13 (Kd.C_below hr0_14 hb) hc0_14 (Kd.C_below hr0_15 hb) hc0_15 h')
  by_cases e8 : a0_0 = 8
  ·
   subst e8
   have h' : bounds_of_S7.f 8 l0_1 a0_2 a0_3 l0_4 a0_5 a0_6 a0_7 l0_8 l0_9 a0_10 a0_11 a0_12 l0_13 l0_14 l0_15 = some (r1, r2) := by simpa using h
   exact bounds_Own.gen _ 8 rfl rfl 1 (some 46) 47 true rfl _ Try.func47 (by kernel_rfl) rfl r1 r2 w hq (fun W hb => bounds_of_S7.calls 8 A0_1 c0_1 l0_1 a0_2 a0_3 A0_4 c0_4 l0_4 a0_5 a0_6 a0_7 A0_8 c0_8 l0_8 A0_9 c0_9 l0_9 a0_10 a0_11 a0_12 A0_13 c0_13 l0_13 A0_14 c0_14 l0_14 A0_15 c0_15 l0_15 r1 r2 W (Kd.C_below hr0_1 hb) hc0_1 (Kd.C_below hr0_4 hb) hc0_4 (Kd.C_below hr0_8 hb) hc0_8 (Kd.C_below hr0_9 hb) hc0_9 (Kd.C_below hr0_13 hb) hc0_13 (Kd.C_below hr0_14 hb) hc0_14 (Kd.C_below hr0_15 hb) hc0_15 h')
  exfalso
  unfold bounds_Bounded.f at hb
  rw [if_neg e0, if_neg e1, if_neg e2, if_neg e3, if_neg e4, if_neg e5, if_neg e6, if_neg e7, if_neg e8] at hb
  cases hb

def bounds_RightConfig.f (a0_0 : Int) (a0_1 : Int) (a0_2 : Int) (a0_3 : Int) (a0_4 : Int) (a0_5 : Int) : Option (Bool) := (bounds_within.f a0_0 1 8).bind fun t126 => (if t126 = true then ((bounds_within.f a0_1 0 a0_2).bind fun t127 => (if t127 = true then (if a0_2 ≤ 10000 then ((bounds_within.f a0_3 0 10000).bind fun t128 => (if t128 = true then ((bounds_within.f a0_4 1 20).bind fun t129 => (if t129 = true then ((bounds_within.f a0_5 (wrap64 (a0_2 + 1)) 30000).bind fun t130 => (some t130)) else (some false))) else (some false))) else (some false)) else (some false))) else (some false))
set_option maxHeartbeats 8000000 in
set_option maxRecDepth 100000 in
theorem bounds_RightConfig.calls (a0_0 : Int) (a0_1 : Int) (a0_2 : Int) (a0_3 : Int) (a0_4 : Int) (a0_5 : Int) (r : Bool) (w : World) (h : bounds_RightConfig.f a0_0 a0_1 a0_2 a0_3 a0_4 a0_5 = some r) :
    Calls Try.prog 19 #[.agg #[.int .i64 a0_0, .int .i64 a0_1, .int .i64 a0_2, .int .i64 a0_3, .int .i64 a0_4, .int .i64 a0_5]] w fun e w' => e = .returned (.bool r) ∧ Below w.heap.size w w' := by
 have hu27 := Try.underlying27
 have HB := Aside0.mk (Below.refl w.heap.size w)
 have H : ((bounds_within.f a0_0 1 8).bind fun t126 => (if t126 = true then ((bounds_within.f a0_1 0 a0_2).bind fun t127 => (if t127 = true then (if a0_2 ≤ 10000 then ((bounds_within.f a0_3 0 10000).bind fun t128 => (if t128 = true then ((bounds_within.f a0_4 1 20).bind fun t129 => (if t129 = true then ((bounds_within.f a0_5 (wrap64 (a0_2 + 1)) 30000).bind fun t130 => (some t130)) else (some false))) else (some false))) else (some false)) else (some false))) else (some false))) = some r := h
 clear h
 replace H := Option.bind_eq_some_iff.mp H
 obtain ⟨t126, A20, H⟩ := H
 try dsimp only at H
 have A2 := Aside0.mk A20
 clear A20
 by_cases c3 : t126 = true
 ·
  subst c3
  rw [if_pos rfl] at H
  replace H := Option.bind_eq_some_iff.mp H
  obtain ⟨t127, A40, H⟩ := H
  try dsimp only at H
  have A4 := Aside0.mk A40
  clear A40
  by_cases c5 : t127 = true
  ·
   subst c5
   rw [if_pos rfl] at H
   by_cases c6 : a0_2 ≤ 10000
   ·
    rw [if_pos c6] at H
    have c6b0 : decide (a0_2 ≤ 10000) = true := decide_eq_true c6
    clear c6
    replace H := Option.bind_eq_some_iff.mp H
    obtain ⟨t128, A70, H⟩ := H
    try dsimp only at H
    have A7 := Aside0.mk A70
    clear A70
    by_cases c8 : t128 = true
    ·
     subst c8
     rw [if_pos rfl] at H
     replace H := Option.bind_eq_some_iff.mp H
     obtain ⟨t129, A90, H⟩ := H
     try dsimp only at H
     have A9 := Aside0.mk A90
     clear A90
     by_cases c10 : t129 = true
     ·
      subst c10
      rw [if_pos rfl] at H
      replace H := Option.bind_eq_some_iff.mp H
      obtain ⟨t130, A110, H⟩ := H
      try dsimp only at H
      have A11 := Aside0.mk A110
      clear A110
      obtain rfl := Option.some.inj H
      go_enter Try.func19, Try.ntmps19
      go_wp2_with (first | ((with_reducible refine gate_dst (N := 1) rfl ?_); refine box_event ?hg (N := 1) ?hd (cs := #[.int .i64 a0_0, .int .i64 a0_1, .int .i64 a0_2, .int .i64 a0_3, .int .i64 a0_4, .int .i64 a0_5]) (t := 27) ?hr ?_; (case hd => rfl); (case hg => rfl); (case hr => first | (go_simp; done) | (go_simp; rfl)); intro gb125 hg w12 hbox hb; have BK125 := Aside0.mk (hbox); have GW125 := Aside0.mk ((by rw [hg]; exact below_sizeA : w.heap.size ≤ gb125)); have GE125 := GW125; replace HB := Aside0.mk (below_stepA hb); clear hb hbox hg; have hz13 := blk6 BK125.out) | ((with_reducible refine gate_callee (f := 28) rfl ?_); refine goesL_ (some 5) rfl rfl Try.func28 (by kernel_rfl) rfl #[.int .i64 a0_0, .int .i64 1, .int .i64 8] rfl mapA ?_; (with_reducible refine (bounds_within.calls a0_0 1 8 true _ A2.out).mono ?_); rintro e w' ⟨rfl, ⟨nd, rfl⟩⟩; refine ⟨_, rfl, ?_⟩) | (go_at_call 28; (with_reducible refine (bounds_within.calls a0_1 0 a0_2 true _ A4.out).mono ?_); rintro e w' ⟨rfl, ⟨nd, rfl⟩⟩) | (go_at_call 28; (with_reducible refine (bounds_within.calls a0_3 0 10000 true _ A7.out).mono ?_); rintro e w' ⟨rfl, ⟨nd, rfl⟩⟩) | (go_at_call 28; (with_reducible refine (bounds_within.calls a0_4 1 20 true _ A9.out).mono ?_); rintro e w' ⟨rfl, ⟨nd, rfl⟩⟩) | (go_at_call 28; (with_reducible refine (bounds_within.calls a0_5 (wrap64 (a0_2 + 1)) 30000 t130 _ A11.out).mono ?_); rintro e w' ⟨rfl, ⟨nd, rfl⟩⟩))
      go_ret
      exact ⟨by first | rfl | (simp [errW_none, errW_some] <;> rfl) | (simp [*, errW_none, errW_some] <;> rfl), belowA⟩
     ·
      replace c10 := Bool.eq_false_iff.mpr c10
      subst c10
      rw [if_neg (show ¬ (false = true) by decide)] at H
      obtain rfl := Option.some.inj H
      go_enter Try.func19, Try.ntmps19
      go_wp2_with (first | ((with_reducible refine gate_dst (N := 1) rfl ?_); refine box_event ?hg (N := 1) ?hd (cs := #[.int .i64 a0_0, .int .i64 a0_1, .int .i64 a0_2, .int .i64 a0_3, .int .i64 a0_4, .int .i64 a0_5]) (t := 27) ?hr ?_; (case hd => rfl); (case hg => rfl); (case hr => first | (go_simp; done) | (go_simp; rfl)); intro gb125 hg w14 hbox hb; have BK125 := Aside0.mk (hbox); have GW125 := Aside0.mk ((by rw [hg]; exact below_sizeA : w.heap.size ≤ gb125)); have GE125 := GW125; replace HB := Aside0.mk (below_stepA hb); clear hb hbox hg; have hz15 := blk6 BK125.out) | ((with_reducible refine gate_callee (f := 28) rfl ?_); refine goesL_ (some 5) rfl rfl Try.func28 (by kernel_rfl) rfl #[.int .i64 a0_0, .int .i64 1, .int .i64 8] rfl mapA ?_; (with_reducible refine (bounds_within.calls a0_0 1 8 true _ A2.out).mono ?_); rintro e w' ⟨rfl, ⟨nd, rfl⟩⟩; refine ⟨_, rfl, ?_⟩) | (go_at_call 28; (with_reducible refine (bounds_within.calls a0_1 0 a0_2 true _ A4.out).mono ?_); rintro e w' ⟨rfl, ⟨nd, rfl⟩⟩) | (go_at_call 28; (with_reducible refine (bounds_within.calls a0_3 0 10000 true _ A7.out).mono ?_); rintro e w' ⟨rfl, ⟨nd, rfl⟩⟩) | (go_at_call 28; (with_reducible refine (bounds_within.calls a0_4 1 20 false _ A9.out).mono ?_); rintro e w' ⟨rfl, ⟨nd, rfl⟩⟩))
      go_ret
      exact ⟨by first | rfl | (simp [errW_none, errW_some] <;> rfl) | (simp [*, errW_none, errW_some] <;> rfl), belowA⟩
    ·
     replace c8 := Bool.eq_false_iff.mpr c8
     subst c8
     rw [if_neg (show ¬ (false = true) by decide)] at H
     obtain rfl := Option.some.inj H
     go_enter Try.func19, Try.ntmps19
     go_wp2_with (first | ((with_reducible refine gate_dst (N := 1) rfl ?_); refine box_event ?hg (N := 1) ?hd (cs := #[.int .i64 a0_0, .int .i64 a0_1, .int .i64 a0_2, .int .i64 a0_3, .int .i64 a0_4, .int .i64 a0_5]) (t := 27) ?hr ?_; (case hd => rfl); (case hg => rfl); (case hr => first | (go_simp; done) | (go_simp; rfl)); intro gb125 hg w16 hbox hb; have BK125 := Aside0.mk (hbox); have GW125 := Aside0.mk ((by rw [hg]; exact below_sizeA : w.heap.size ≤ gb125)); have GE125 := GW125; replace HB := Aside0.mk (below_stepA hb); clear hb hbox hg; have hz17 := blk6 BK125.out) | ((with_reducible refine gate_callee (f := 28) rfl ?_); refine goesL_ (some 5) rfl rfl Try.func28 (by kernel_rfl) rfl #[.int .i64 a0_0, .int .i64 1, .int .i64 8] rfl mapA ?_; (with_reducible refine (bounds_within.calls a0_0 1 8 true _ A2.out).mono ?_); rintro e w' ⟨rfl, ⟨nd, rfl⟩⟩; refine ⟨_, rfl, ?_⟩) | (go_at_call 28; (with_reducible refine (bounds_within.calls a0_1 0 a0_2 true _ A4.out).mono ?_); rintro e w' ⟨rfl, ⟨nd, rfl⟩⟩) | (go_at_call 28; (with_reducible refine (bounds_within.calls a0_3 0 10000 false _ A7.out).mono ?_); rintro e w' ⟨rfl, ⟨nd, rfl⟩⟩))
     go_ret
     exact ⟨by first | rfl | (simp [errW_none, errW_some] <;> rfl) | (simp [*, errW_none, errW_some] <;> rfl), belowA⟩
   ·
    rw [if_neg c6] at H
    have c6b0 : decide (a0_2 ≤ 10000) = false := decide_eq_false c6
    clear c6
    obtain rfl := Option.some.inj H
    go_enter Try.func19, Try.ntmps19
    go_wp2_with (first | ((with_reducible refine gate_dst (N := 1) rfl ?_); refine box_event ?hg (N := 1) ?hd (cs := #[.int .i64 a0_0, .int .i64 a0_1, .int .i64 a0_2, .int .i64 a0_3, .int .i64 a0_4, .int .i64 a0_5]) (t := 27) ?hr ?_; (case hd => rfl); (case hg => rfl); (case hr => first | (go_simp; done) | (go_simp; rfl)); intro gb125 hg w18 hbox hb; have BK125 := Aside0.mk (hbox); have GW125 := Aside0.mk ((by rw [hg]; exact below_sizeA : w.heap.size ≤ gb125)); have GE125 := GW125; replace HB := Aside0.mk (below_stepA hb); clear hb hbox hg; have hz19 := blk6 BK125.out) | ((with_reducible refine gate_callee (f := 28) rfl ?_); refine goesL_ (some 5) rfl rfl Try.func28 (by kernel_rfl) rfl #[.int .i64 a0_0, .int .i64 1, .int .i64 8] rfl mapA ?_; (with_reducible refine (bounds_within.calls a0_0 1 8 true _ A2.out).mono ?_); rintro e w' ⟨rfl, ⟨nd, rfl⟩⟩; refine ⟨_, rfl, ?_⟩) | (go_at_call 28; (with_reducible refine (bounds_within.calls a0_1 0 a0_2 true _ A4.out).mono ?_); rintro e w' ⟨rfl, ⟨nd, rfl⟩⟩))
    go_ret
    exact ⟨by first | rfl | (simp [errW_none, errW_some] <;> rfl) | (simp [*, errW_none, errW_some] <;> rfl), belowA⟩
  ·
   replace c5 := Bool.eq_false_iff.mpr c5
   subst c5
   rw [if_neg (show ¬ (false = true) by decide)] at H
   obtain rfl := Option.some.inj H
   go_enter Try.func19, Try.ntmps19
   go_wp2_with (first | ((with_reducible refine gate_dst (N := 1) rfl ?_); refine box_event ?hg (N := 1) ?hd (cs := #[.int .i64 a0_0, .int .i64 a0_1, .int .i64 a0_2, .int .i64 a0_3, .int .i64 a0_4, .int .i64 a0_5]) (t := 27) ?hr ?_; (case hd => rfl); (case hg => rfl); (case hr => first | (go_simp; done) | (go_simp; rfl)); intro gb125 hg w20 hbox hb; have BK125 := Aside0.mk (hbox); have GW125 := Aside0.mk ((by rw [hg]; exact below_sizeA : w.heap.size ≤ gb125)); have GE125 := GW125; replace HB := Aside0.mk (below_stepA hb); clear hb hbox hg; have hz21 := blk6 BK125.out) | ((with_reducible refine gate_callee (f := 28) rfl ?_); refine goesL_ (some 5) rfl rfl Try.func28 (by kernel_rfl) rfl #[.int .i64 a0_0, .int .i64 1, .int .i64 8] rfl mapA ?_; (with_reducible refine (bounds_within.calls a0_0 1 8 true _ A2.out).mono ?_); rintro e w' ⟨rfl, ⟨nd, rfl⟩⟩; refine ⟨_, rfl, ?_⟩) | (go_at_call 28; (with_reducible refine (bounds_within.calls a0_1 0 a0_2 false _ A4.out).mono ?_); rintro e w' ⟨rfl, ⟨nd, rfl⟩⟩))
   go_ret
   exact ⟨by first | rfl | (simp [errW_none, errW_some] <;> rfl) | (simp [*, errW_none, errW_some] <;> rfl), belowA⟩
 ·
  replace c3 := Bool.eq_false_iff.mpr c3
  subst c3
  rw [if_neg (show ¬ (false = true) by decide)] at H
  obtain rfl := Option.some.inj H
  go_enter Try.func19, Try.ntmps19
  go_wp2_with (first | ((with_reducible refine gate_dst (N := 1) rfl ?_); refine box_event ?hg (N := 1) ?hd (cs := #[.int .i64 a0_0, .int .i64 a0_1, .int .i64 a0_2, .int .i64 a0_3, .int .i64 a0_4, .int .i64 a0_5]) (t := 27) ?hr ?_; (case hd => rfl); (case hg => rfl); (case hr => first | (go_simp; done) | (go_simp; rfl)); intro gb125 hg w22 hbox hb; have BK125 := Aside0.mk (hbox); have GW125 := Aside0.mk ((by rw [hg]; exact below_sizeA : w.heap.size ≤ gb125)); have GE125 := GW125; replace HB := Aside0.mk (below_stepA hb); clear hb hbox hg; have hz23 := blk6 BK125.out) | ((with_reducible refine gate_callee (f := 28) rfl ?_); refine goesL_ (some 5) rfl rfl Try.func28 (by kernel_rfl) rfl #[.int .i64 a0_0, .int .i64 1, .int .i64 8] rfl mapA ?_; (with_reducible refine (bounds_within.calls a0_0 1 8 false _ A2.out).mono ?_); rintro e w' ⟨rfl, ⟨nd, rfl⟩⟩; refine ⟨_, rfl, ?_⟩))
  go_ret
  exact ⟨by first | rfl | (simp [errW_none, errW_some] <;> rfl) | (simp [*, errW_none, errW_some] <;> rfl), belowA⟩

end Go.Proofs.Yteoljddobfnfiaa.PB
end
section
namespace Go.Proofs.Yteoljddobfnfiaa.Pure
open Go.RowKit Go.Proofs.YteoljddobfnfiaaW.PrintWords Go.Proofs.YteoljddobfnfiaaW.PrintLast Go.Proofs.YteoljddobfnfiaaW.PrintMore Go.Proofs.Yteoljddobfnfiaa.PB
set_option linter.unusedVariables false
set_option linter.unusedSimpArgs false

theorem wrap_id {n : Int} (h0 : -9223372036854775808 ≤ n) (h1 : n ≤ 9223372036854775807) : wrap64 n = n := by unfold wrap64; omega

theorem within_eq (a b c : Int) : bounds_within.f a b c = some (decide (b ≤ a ∧ a ≤ c)) := by
  unfold bounds_within.f
  split
  · congr 1; simp; omega
  · congr 1; simp; omega
def bdd (n : S44) : Bool :=
  if n.f0 = 0 ∨ n.f0 = 1 ∨ n.f0 = 2 ∨ n.f0 = 3 then true
  else if n.f0 = 4 then
    if n.f5 = 0 then decide (1 ≤ n.f6 ∧ n.f6 ≤ 10000)
    else if n.f5 = 1 then decide ((1 ≤ n.f6 ∧ n.f6 ≤ 10000) ∧ 0 < n.f7 ∧ Int.tmod n.f6 n.f7 = 0)
    else if n.f5 = 2 then decide ((1 ≤ n.f6 ∧ n.f6 ≤ 10000) ∧ 1 ≤ n.f7 ∧ n.f7 ≤ n.f6)
    else false
  else if n.f0 = 5 then decide ((1 ≤ n.f6 ∧ n.f6 ≤ 10000) ∧ 1 ≤ n.f12 ∧ n.f12 ≤ 100)
  else if n.f0 = 6 then decide ((0 ≤ n.f10 ∧ n.f10 ≤ 10000) ∧ 0 ≤ n.f11 ∧ n.f11 ≤ 10000)
  else if n.f0 = 7 then decide (1 ≤ n.f12 ∧ n.f12 ≤ 10000)
  else if n.f0 = 8 then decide ((1 ≤ n.f6 ∧ n.f6 ≤ 10000) ∧ 1 ≤ (n.f14.length : Int) ∧ (n.f14.length : Int) ≤ 8)
  else false

theorem sized_eq (n : S44) : bounds_sized.f n.f0 n.f1 n.f2 n.f3 n.f4 n.f5 n.f6 n.f7 n.f8 n.f9 n.f10 n.f11 n.f12 n.f13 n.f14 n.f15 = some (decide (1 ≤ n.f6 ∧ n.f6 ≤ 10000)) := by
  unfold bounds_sized.f
  simp only [within_eq, Option.bind_some]
theorem and_eq (a b : Prop) [Decidable a] [Decidable b] : (if decide a = true then some (decide b) else some false) = some (decide (a ∧ b)) := by
  by_cases ha : a <;> simp [ha]
theorem window_eq (n : S44) : bounds_window.f n.f0 n.f1 n.f2 n.f3 n.f4 n.f5 n.f6 n.f7 n.f8 n.f9 n.f10 n.f11 n.f12 n.f13 n.f14 n.f15 = some (if n.f5 = 0 then decide (1 ≤ n.f6 ∧ n.f6 ≤ 10000)
    else if n.f5 = 1 then decide ((1 ≤ n.f6 ∧ n.f6 ≤ 10000) ∧ 0 < n.f7 ∧ Int.tmod n.f6 n.f7 = 0)
    else if n.f5 = 2 then decide ((1 ≤ n.f6 ∧ n.f6 ≤ 10000) ∧ 1 ≤ n.f7 ∧ n.f7 ≤ n.f6) else false) := by
  unfold bounds_window.f
  simp only [sized_eq, within_eq, Option.bind_some]
  by_cases h0 : n.f5 = 0
  · rw [if_pos h0, if_pos h0]
  rw [if_neg h0, if_neg h0]
  by_cases h1 : n.f5 = 1
  · rw [if_pos h1, if_pos h1]
    by_cases hs : 1 ≤ n.f6 ∧ n.f6 ≤ 10000
    · rw [if_pos (decide_eq_true hs)]
      by_cases h7 : n.f7 > 0
      · rw [if_pos h7, if_neg (by omega)]
        congr 1
        have h7' : 0 < n.f7 := h7
        by_cases hm : Int.tmod n.f6 n.f7 = 0
        · simp [hs, h7', hm]
        · simp [hm]
      · rw [if_neg h7]
        congr 1
        have h7' : ¬ 0 < n.f7 := h7
        simp [h7']
    · rw [if_neg (by simpa using hs)]
      congr 1
      symm
      exact decide_eq_false (fun h => hs h.1)
  rw [if_neg h1, if_neg h1]
  by_cases h2 : n.f5 = 2
  · rw [if_pos h2, if_pos h2, and_eq]
  · rw [if_neg h2, if_neg h2]
theorem Bounded_eq (n : S44) : bounds_Bounded.f n.f0 n.f1 n.f2 n.f3 n.f4 n.f5 n.f6 n.f7 n.f8 n.f9 n.f10 n.f11 n.f12 n.f13 n.f14 n.f15 = some (bdd n) := by
  unfold bounds_Bounded.f bdd bounds_always.f bounds_of_S1.f bounds_of_S2.f bounds_of_S4.f bounds_of_S6.f
  simp only [within_eq, sized_eq, window_eq, Option.bind_some, and_eq]
  by_cases h0 : n.f0 = 0
  · simp [h0]
  by_cases h1 : n.f0 = 1
  · simp [h1]
  by_cases h2 : n.f0 = 2
  · simp [h2]
  by_cases h3 : n.f0 = 3
  · simp [h3]
  simp only [h0, h1, h2, h3, if_false, or_self]
  split
  · rfl
  split
  · rfl
  split
  · rfl
  split
  · rfl
  split <;> rfl
def ownB (n : S44) : Int :=
  if bdd n = true then
    if n.f0 = 4 ∨ n.f0 = 5 ∨ n.f0 = 8 then n.f6 - 1 else if n.f0 = 6 then mx n.f10 n.f11 else if n.f0 = 7 then n.f12 - 1 else 0
  else 0
def ownF (n : S44) : Int :=
  if bdd n = true then if n.f0 = 4 then if n.f5 = 2 then n.f7 - 1 else n.f6 - 1 else if n.f0 = 5 then n.f6 - 1 else 0 else 0
theorem bdd_size (n : S44) (h : bdd n = true) (ho : n.f0 = 4 ∨ n.f0 = 5 ∨ n.f0 = 8) : 1 ≤ n.f6 ∧ n.f6 ≤ 10000 := by
  unfold bdd at h
  rw [if_neg (by omega)] at h
  by_cases h4 : n.f0 = 4
  · rw [if_pos h4] at h
    split at h
    · exact of_decide_eq_true h
    split at h
    · exact (of_decide_eq_true h).1
    split at h
    · exact (of_decide_eq_true h).1
    · cases h
  rw [if_neg h4] at h
  by_cases h5 : n.f0 = 5
  · rw [if_pos h5] at h
    exact (of_decide_eq_true h).1
  · rw [if_neg h5, if_neg (by omega), if_neg (by omega), if_pos (by omega)] at h
    exact (of_decide_eq_true h).1
theorem bdd_session (n : S44) (h : bdd n = true) (ho : n.f0 = 4) (hk : n.f5 = 2) : 1 ≤ n.f7 ∧ n.f7 ≤ n.f6 := by
  unfold bdd at h
  rw [if_neg (by omega), if_pos ho, if_neg (by omega), if_neg (by omega), if_pos hk] at h
  exact (of_decide_eq_true h).2
theorem bdd_join (n : S44) (h : bdd n = true) (ho : n.f0 = 6) : 0 ≤ n.f10 ∧ n.f10 ≤ 10000 ∧ 0 ≤ n.f11 ∧ n.f11 ≤ 10000 := by
  unfold bdd at h
  rw [if_neg (by omega), if_neg (by omega), if_neg (by omega), if_pos ho] at h
  have := of_decide_eq_true h
  omega
theorem bdd_asof (n : S44) (h : bdd n = true) (ho : n.f0 = 7) : 1 ≤ n.f12 ∧ n.f12 ≤ 10000 := by
  unfold bdd at h
  rw [if_neg (by omega), if_neg (by omega), if_neg (by omega), if_neg (by omega), if_pos ho] at h
  exact of_decide_eq_true h
theorem bdd_op (n : S44) (h : bdd n = true) : 0 ≤ n.f0 ∧ n.f0 ≤ 8 := by
  unfold bdd at h
  repeat' split at h
  all_goals first
    | omega
    | cases h
theorem own_range (n : S44) : 0 ≤ ownB n ∧ ownB n ≤ 10000 ∧ 0 ≤ ownF n ∧ ownF n ≤ 10000 := by
  unfold ownB ownF
  by_cases hb : bdd n = true
  · rw [if_pos hb, if_pos hb]
    by_cases h4 : n.f0 = 4 ∨ n.f0 = 5 ∨ n.f0 = 8
    · have hs := bdd_size n hb h4
      rw [if_pos h4]
      by_cases h44 : n.f0 = 4
      · rw [if_pos h44]
        by_cases hk : n.f5 = 2
        · have := bdd_session n hb h44 hk
          rw [if_pos hk]; omega
        · rw [if_neg hk]; omega
      · rw [if_neg h44]
        split <;> omega
    · have n4 : ¬ n.f0 = 4 := by omega
      have n5 : ¬ n.f0 = 5 := by omega
      rw [if_neg h4, if_neg n4, if_neg n5]
      by_cases h6 : n.f0 = 6
      · have := bdd_join n hb h6
        rw [if_pos h6]; unfold mx; split <;> omega
      · rw [if_neg h6]
        by_cases h7 : n.f0 = 7
        · have := bdd_asof n hb h7
          rw [if_pos h7]; omega
        · rw [if_neg h7]; omega
  · rw [if_neg hb, if_neg hb]; omega
theorem Own_eq (n : S44) : bounds_Own.f n.f0 n.f1 n.f2 n.f3 n.f4 n.f5 n.f6 n.f7 n.f8 n.f9 n.f10 n.f11 n.f12 n.f13 n.f14 n.f15 = some (ownB n, ownF n) := by
  unfold bounds_Own.f ownB ownF
  rw [Bounded_eq, Option.bind_some]
  by_cases hb : bdd n = true
  · simp only [if_pos hb]
    have hop := bdd_op n hb
    unfold bounds_none.f bounds_block.f bounds_of_S3.f bounds_of_S5.f bounds_of_S7.f
    have hc : n.f0 = 0 ∨ n.f0 = 1 ∨ n.f0 = 2 ∨ n.f0 = 3 ∨ n.f0 = 4 ∨ n.f0 = 5 ∨ n.f0 = 6 ∨ n.f0 = 7 ∨ n.f0 = 8 := by omega
    rcases hc with h | h | h | h | h | h | h | h | h
    · simp [h]
    · simp [h]
    · simp [h]
    · simp [h]
    · have hs := bdd_size n hb (by omega)
      by_cases hk : n.f5 = 2
      · have := bdd_session n hb h hk
        simp [h, hk, wrap_id (n := n.f6 - 1) (by omega) (by omega), wrap_id (n := n.f7 - 1) (by omega) (by omega)]
      · simp [h, hk, wrap_id (n := n.f6 - 1) (by omega) (by omega)]
    · have hs := bdd_size n hb (by omega)
      simp [h, wrap_id (n := n.f6 - 1) (by omega) (by omega)]
    · simp [h]
    · have hs := bdd_asof n hb h
      simp [h, wrap_id (n := n.f12 - 1) (by omega) (by omega)]
    · have hs := bdd_size n hb (by omega)
      simp [h, wrap_id (n := n.f6 - 1) (by omega) (by omega)]
  · simp [hb]
def rightC (a0 a1 a2 a3 a4 a5 : Int) : Prop := (1 ≤ a0 ∧ a0 ≤ 8) ∧ (0 ≤ a1 ∧ a1 ≤ a2) ∧ a2 ≤ 10000 ∧ (0 ≤ a3 ∧ a3 ≤ 10000) ∧ (1 ≤ a4 ∧ a4 ≤ 20) ∧ a2 < a5 ∧ a5 ≤ 30000
instance (a0 a1 a2 a3 a4 a5 : Int) : Decidable (rightC a0 a1 a2 a3 a4 a5) := by unfold rightC; infer_instance
theorem RightConfig_eq (a0 a1 a2 a3 a4 a5 : Int) : bounds_RightConfig.f a0 a1 a2 a3 a4 a5 = some (decide (rightC a0 a1 a2 a3 a4 a5)) := by
  unfold bounds_RightConfig.f
  simp only [within_eq, Option.bind_some]
  by_cases h0 : 1 ≤ a0 ∧ a0 ≤ 8
  · rw [if_pos (decide_eq_true h0)]
    by_cases h1 : 0 ≤ a1 ∧ a1 ≤ a2
    · rw [if_pos (decide_eq_true h1)]
      by_cases h2 : a2 ≤ 10000
      · rw [if_pos h2]
        have hw : wrap64 (a2 + 1) = a2 + 1 := wrap_id (by omega) (by omega)
        by_cases h3 : 0 ≤ a3 ∧ a3 ≤ 10000
        · rw [if_pos (decide_eq_true h3)]
          by_cases h4 : 1 ≤ a4 ∧ a4 ≤ 20
          · rw [if_pos (decide_eq_true h4), hw]
            congr 1
            rw [decide_eq_decide]
            unfold rightC
            omega
          · rw [if_neg (by simpa using h4)]
            congr 1; symm; exact decide_eq_false (by unfold rightC; omega)
        · rw [if_neg (by simpa using h3)]
          congr 1; symm; exact decide_eq_false (by unfold rightC; omega)
      · rw [if_neg h2]
        congr 1; symm; exact decide_eq_false (by unfold rightC; omega)
    · rw [if_neg (by simpa using h1)]
      congr 1; symm; exact decide_eq_false (by unfold rightC; omega)
  · rw [if_neg (by simpa using h0)]
    congr 1; symm; exact decide_eq_false (by unfold rightC; omega)
theorem rwithin_eq (a b c : Int) : errataref20_within.f a b c = some (decide (b ≤ a ∧ a ≤ c)) := by
  unfold errataref20_within.f
  split
  · congr 1; simp; omega
  · congr 1; simp; omega

end Go.Proofs.Yteoljddobfnfiaa.Pure
end
section
namespace Go.Proofs.Yteoljddobfnfiaa.PB
open Go.RowKit Go.Proofs.YteoljddobfnfiaaW.PrintWords Go.Proofs.YteoljddobfnfiaaW.PrintLast Go.Proofs.YteoljddobfnfiaaW.PrintMore
attribute [local go_sem] max2_int min2_int max_two min_two max_three min_three max_four min_four
attribute [local go_sem ↓ high] Go.Proofs.Yteoljddobfnfiaa.My.ld44_eq Go.Proofs.Yteoljddobfnfiaa.My.st44_eq Go.Proofs.Yteoljddobfnfiaa.My.ld27_eq Go.Proofs.Yteoljddobfnfiaa.My.st27_eq Go.Proofs.Yteoljddobfnfiaa.My.ld37_eq Go.Proofs.Yteoljddobfnfiaa.My.st37_eq Go.Proofs.Yteoljddobfnfiaa.My.ld65_eq Go.Proofs.Yteoljddobfnfiaa.My.st65_eq
attribute [local go_sem high] Go.Proofs.Yteoljddobfnfiaa.My.ld44_run Go.Proofs.Yteoljddobfnfiaa.My.st44_run Go.Proofs.Yteoljddobfnfiaa.My.ld27_run Go.Proofs.Yteoljddobfnfiaa.My.st27_run Go.Proofs.Yteoljddobfnfiaa.My.ld37_run Go.Proofs.Yteoljddobfnfiaa.My.st37_run Go.Proofs.Yteoljddobfnfiaa.My.ld65_run Go.Proofs.Yteoljddobfnfiaa.My.st65_run
open Go.Proofs.Yteoljddobfnfiaa.My
attribute [local go_sem] cell_map run_store_fnV one_int one_bool one_string one_slice one_fnV
set_option linter.unusedVariables false
set_option linter.unusedSimpArgs false

mutual
def bounds_Well.l0 : Nat → List (S44) → Int → Int → List (S95) → List (S44) → Option (Bool)
  | 0, _, _, _, _, _ => none
  | k + 1, x10, x11, x12, x132000, x132001 => if x12 < x11 then (if 0 ≤ x12 then (if x12 < (x10.length : Int) then ((bounds_of.f ((rd_T44 x10 x12).f0)).bind fun bt135 => (if bt135.2.2.2.2 = true then (bounds_Well.j1 k x12 x10 x11 x12 ((((rd_T44 x10 x12).f1).length : Int) != bt135.1) x132000 x132001 ((rd_T44 x10 x12).f0) ((rd_T44 x10 x12).f1) ((rd_T44 x10 x12).f2) ((rd_T44 x10 x12).f3) ((rd_T44 x10 x12).f4) ((rd_T44 x10 x12).f5) ((rd_T44 x10 x12).f6) ((rd_T44 x10 x12).f7) ((rd_T44 x10 x12).f8) ((rd_T44 x10 x12).f9) ((rd_T44 x10 x12).f10) ((rd_T44 x10 x12).f11) ((rd_T44 x10 x12).f12) ((rd_T44 x10 x12).f13) ((rd_T44 x10 x12).f14) ((rd_T44 x10 x12).f15)) else (bounds_Well.j1 k x12 x10 x11 x12 true x132000 x132001 ((rd_T44 x10 x12).f0) ((rd_T44 x10 x12).f1) ((rd_T44 x10 x12).f2) ((rd_T44 x10 x12).f3) ((rd_T44 x10 x12).f4) ((rd_T44 x10 x12).f5) ((rd_T44 x10 x12).f6) ((rd_T44 x10 x12).f7) ((rd_T44 x10 x12).f8) ((rd_T44 x10 x12).f9) ((rd_T44 x10 x12).f10) ((rd_T44 x10 x12).f11) ((rd_T44 x10 x12).f12) ((rd_T44 x10 x12).f13) ((rd_T44 x10 x12).f14) ((rd_T44 x10 x12).f15)))) else (none)) else (none)) else ((bounds_within.f (x132001.length : Int) 1 40).bind fun t132 => (some t132))
def bounds_Well.j1 : Nat → Int → List (S44) → Int → Int → Bool → List (S95) → List (S44) → Int → List Int → ByteArray → Int → List (S93) → Int → Int → Int → List Int → List Int → Int → Int → Int → List (S97) → List (S99) → List (S50) → Option (Bool)
  | 0, _, _, _, _, _, _, _, _, _, _, _, _, _, _, _, _, _, _, _, _, _, _, _ => none
  | k + 1, x3, x10, x11, x12, x32, x132000, x132001, x135000, x135001, x135002, x135003, x135004, x135005, x135006, x135007, x135008, x135009, x135010, x135011, x135012, x135013, x135014, x135015 => if x32 = true then (some false) else (bounds_Well.l1 k x3 x10 x11 x12 x135001 (x135001.length : Int) 0 x132000 x132001)
def bounds_Well.l1 : Nat → Int → List (S44) → Int → Int → List Int → Int → Int → List (S95) → List (S44) → Option (Bool)
  | 0, _, _, _, _, _, _, _, _, _ => none
  | k + 1, x3, x10, x11, x12, x34, x35, x36, x132000, x132001 => if x36 < x35 then (if 0 ≤ x36 then (if x36 < (x34.length : Int) then ((bounds_within.f (rd x34 x36) 0 (wrap64 (x3 - 1))).bind fun t142 => (if t142 = true then (bounds_Well.l1 k x3 x10 x11 x12 x34 x35 (wrap64 (x36 + 1)) x132000 x132001) else (some false))) else (none)) else (none)) else (bounds_Well.l0 k x10 x11 (wrap64 (x12 + 1)) x132000 x132001)
end
def bounds_Well.f (k : Nat) (l0_0 : List (S95)) (l0_1 : List (S44)) : Option (Bool) := bounds_Well.l0 k l0_1 (l0_1.length : Int) 0 l0_0 l0_1
theorem bounds_Well.mono_l : ∀ k, (∀ y0 y1 y2 y3 y4, LeO (bounds_Well.l0 k y0 y1 y2 y3 y4) (bounds_Well.l0 (k + 1) y0 y1 y2 y3 y4)) ∧ (∀ y0 y1 y2 y3 y4 y5 y6 y7 y8 y9 y10 y11 y12 y13 y14 y15 y16 y17 y18 y19 y20 y21 y22, LeO (bounds_Well.j1 k y0 y1 y2 y3 y4 y5 y6 y7 y8 y9 y10 y11 y12 y13 y14 y15 y16 y17 y18 y19 y20 y21 y22) (bounds_Well.j1 (k + 1) y0 y1 y2 y3 y4 y5 y6 y7 y8 y9 y10 y11 y12 y13 y14 y15 y16 y17 y18 y19 y20 y21 y22)) ∧ (∀ y0 y1 y2 y3 y4 y5 y6 y7 y8, LeO (bounds_Well.l1 k y0 y1 y2 y3 y4 y5 y6 y7 y8) (bounds_Well.l1 (k + 1) y0 y1 y2 y3 y4 y5 y6 y7 y8))
  | 0 => ⟨fun _ _ _ _ _ r h => by simp [bounds_Well.l0] at h, fun _ _ _ _ _ _ _ _ _ _ _ _ _ _ _ _ _ _ _ _ _ _ _ r h => by simp [bounds_Well.j1] at h, fun _ _ _ _ _ _ _ _ _ r h => by simp [bounds_Well.l1] at h⟩
  | k + 1 => by
    obtain ⟨ih0, ih1, ih2⟩ := bounds_Well.mono_l k
    refine ⟨?_, ?_, ?_⟩
    · intro y0 y1 y2 y3 y4
      unfold bounds_Well.l0
      repeat' first
      | (with_reducible first | exact ih0 _ _ _ _ _ | exact ih1 _ _ _ _ _ _ _ _ _ _ _ _ _ _ _ _ _ _ _ _ _ _ _ | exact ih2 _ _ _ _ _ _ _ _ _ | exact LeO.refl _ | exact LeO.none _ | refine LeO.ite ?_ ?_ | refine LeO.bind ?_ (fun _ => ?_))
      | exact ih0 _ _ _ _ _ | exact ih1 _ _ _ _ _ _ _ _ _ _ _ _ _ _ _ _ _ _ _ _ _ _ _ | exact ih2 _ _ _ _ _ _ _ _ _ | exact LeO.none _ | refine LeO.ite ?_ ?_ | refine LeO.bind ?_ (fun _ => ?_)
    · intro y0 y1 y2 y3 y4 y5 y6 y7 y8 y9 y10 y11 y12 y13 y14 y15 y16 y17 y18 y19 y20 y21 y22
      unfold bounds_Well.j1
      repeat' first
      | (with_reducible first | exact ih0 _ _ _ _ _ | exact ih1 _ _ _ _ _ _ _ _ _ _ _ _ _ _ _ _ _ _ _ _ _ _ _ | exact ih2 _ _ _ _ _ _ _ _ _ | exact LeO.refl _ | exact LeO.none _ | refine LeO.ite ?_ ?_ | refine LeO.bind ?_ (fun _ => ?_))
      | exact ih0 _ _ _ _ _ | exact ih1 _ _ _ _ _ _ _ _ _ _ _ _ _ _ _ _ _ _ _ _ _ _ _ | exact ih2 _ _ _ _ _ _ _ _ _ | exact LeO.none _ | refine LeO.ite ?_ ?_ | refine LeO.bind ?_ (fun _ => ?_)
    · intro y0 y1 y2 y3 y4 y5 y6 y7 y8
      unfold bounds_Well.l1
      repeat' first
      | (with_reducible first | exact ih0 _ _ _ _ _ | exact ih1 _ _ _ _ _ _ _ _ _ _ _ _ _ _ _ _ _ _ _ _ _ _ _ | exact ih2 _ _ _ _ _ _ _ _ _ | exact LeO.refl _ | exact LeO.none _ | refine LeO.ite ?_ ?_ | refine LeO.bind ?_ (fun _ => ?_))
      | exact ih0 _ _ _ _ _ | exact ih1 _ _ _ _ _ _ _ _ _ _ _ _ _ _ _ _ _ _ _ _ _ _ _ | exact ih2 _ _ _ _ _ _ _ _ _ | exact LeO.none _ | refine LeO.ite ?_ ?_ | refine LeO.bind ?_ (fun _ => ?_)
theorem bounds_Well.mono : ∀ a0 a1 k, LeO (bounds_Well.f k a0 a1) (bounds_Well.f (k + 1) a0 a1) := by
  intro a0 a1 k
  obtain ⟨ih0, ih1, ih2⟩ := bounds_Well.mono_l k
  unfold bounds_Well.f
  repeat' first
      | (with_reducible first | exact ih0 _ _ _ _ _ | exact ih1 _ _ _ _ _ _ _ _ _ _ _ _ _ _ _ _ _ _ _ _ _ _ _ | exact ih2 _ _ _ _ _ _ _ _ _ | exact LeO.refl _ | exact LeO.none _ | refine LeO.ite ?_ ?_ | refine LeO.bind ?_ (fun _ => ?_))
      | exact ih0 _ _ _ _ _ | exact ih1 _ _ _ _ _ _ _ _ _ _ _ _ _ _ _ _ _ _ _ _ _ _ _ | exact ih2 _ _ _ _ _ _ _ _ _ | exact LeO.none _ | refine LeO.ite ?_ ?_ | refine LeO.bind ?_ (fun _ => ?_)
set_option maxHeartbeats 8000000 in
set_option maxRecDepth 100000 in
theorem bounds_Well.calls (k : Nat) (A0_0 : Option Addr) (c0_0 : Nat) (l0_0 : List (S95)) (A0_1 : Option Addr) (c0_1 : Nat) (l0_1 : List (S44)) (r : Bool) (w : World) (hr0_0 : Kd.C k95 w A0_0 l0_0.length l0_0) (hc0_0 : l0_0.length ≤ c0_0) (hr0_1 : Kd.C k44 w A0_1 l0_1.length l0_1) (hc0_1 : l0_1.length ≤ c0_1) (h : bounds_Well.f k l0_0 l0_1 = some r) :
    Calls Try.prog 21 #[.agg #[.slice A0_0 l0_0.length c0_0, .slice A0_1 l0_1.length c0_1]] w fun e w' => e = .returned (.bool r) ∧ Below w.heap.size w w' := by
 have hu25 := Try.underlying25
 have hu44 := Try.underlying44
 have hu65 := Try.underlying65
 have HR0_0 := Aside0.mk hr0_0
 have HC0_0 := Aside0.mk hc0_0
 clear hr0_0 hc0_0
 have HR0_1 := Aside0.mk hr0_1
 have HC0_1 := Aside0.mk hc0_1
 clear hr0_1 hc0_1
 have HB := Aside0.mk (Below.refl w.heap.size w)
 have H : (bounds_Well.l0 k l0_1 (l0_1.length : Int) 0 l0_0 l0_1) = some r := h
 clear h
 have H' := Aside0.mk H
 clear H
 go_enter Try.func21, Try.ntmps21
 go_wp2_with (first | ((with_reducible refine gate_dst (N := 1) rfl ?_); (try (refine gate_guard (by rfl) ?_; dsimp only)); refine box_event ?hg (N := 1) ?hd (cs := #[.slice A0_0 l0_0.length c0_0, .slice A0_1 l0_1.length c0_1]) (t := 25) ?hr ?_; (case hd => rfl); (case hg => rfl); (case hr => first | (go_simp; done) | (go_simp; rfl)); intro gb131 hg w2 hbox hb; have BK131 := Aside0.mk (hbox); have GW131 := Aside0.mk ((by rw [hg]; exact below_sizeA : w.heap.size ≤ gb131)); have GE131 := GW131; replace HB := Aside0.mk (below_stepA hb); clear hb hbox hg; have hz3 := blk2 BK131.out))
 go_loopg [12] k (fun kq v12 w' => ∃ (x12_1 : Int), v12 = .int .i64 x12_1 ∧ Aside0 (bounds_Well.l0 kq l0_1 (l0_1.length : Int) x12_1 l0_0 l0_1 = some r) ∧ Aside0 (kq ≤ k) ∧ Aside0 (w'.heap[gb131]? = some (.cells #[(.slice A0_0 l0_0.length c0_0), (.slice A0_1 l0_1.length c0_1)] 25 (0, 0))) ∧ Aside0 (Below w.heap.size w w'))
 case atStart => exact ⟨(0), (by first | rfl | (simp; done) | (simp [*]; done)), H', ⟨Nat.le_refl _⟩, ⟨blk_move BK131.out⟩, ⟨by repeat (first | (with_reducible first | exact HB.out | apply below_alloc | apply pw_below_drewN | apply below_drew1 | refine below_set ?_ GE131.out) | exact HB.out)⟩⟩
 case round =>
  clear H'
  try clear c2
  try clear p2
  try clear hz3
  obtain ⟨x12_1, rfl, HA, HK1, BK131, HB⟩ := hrel
  cases gk with
  | zero => exact absurd HA.out (by simp [bounds_Well.l0])
  | succ k1 =>
   have H := HA.out
   clear HA
   simp only [bounds_Well.l0] at H
   by_cases c4 : x12_1 < (l0_1.length : Int)
   ·
    rw [if_pos c4] at H
    have c4b0 : decide (x12_1 < (l0_1.length : Int)) = true := decide_eq_true c4
    clear c4
    by_cases c5 : 0 ≤ x12_1
    case neg => rw [if_neg c5] at H; exact absurd H (by simp)
    rw [if_pos c5] at H
    have c5b0 : decide (0 ≤ x12_1) = true := decide_eq_true c5
    clear c5
    by_cases c6 : x12_1 < (l0_1.length : Int)
    case neg => rw [if_neg c6] at H; exact absurd H (by simp)
    rw [if_pos c6] at H
    have c6b0 : decide (x12_1 < (l0_1.length : Int)) = true := decide_eq_true c6
    clear c6
    replace H := Option.bind_eq_some_iff.mp H
    obtain ⟨⟨t135, t136, t137, t138, t139⟩, A70, H⟩ := H
    try dsimp only at H
    have A7 := Aside0.mk A70
    clear A70
    have HC8 := Aside0.mk H
    clear H
    have p133 : 0 ≤ (x12_1 : Int) := odA
    have q133 : x12_1 < (l0_1.length : Int) := odA
    obtain ⟨ad133, A133_1, c133_1, A133_4, c133_4, A133_8, c133_8, A133_9, c133_9, A133_13, c133_13, A133_14, c133_14, A133_15, c133_15, e133, hx133_0, hx133_1, hx133_2, hx133_3, hx133_4, hx133_5, hx133_6, hx133_7, hx133_8, hx133_9, hx133_10, hx133_11, hx133_12, hx133_13, hx133_14, hx133_15, hl133_1, hi133_1, hl133_4, hi133_4, hl133_8, hi133_8, hl133_9, hi133_9, hl133_13, hi133_13, hl133_14, hi133_14, hl133_15, hi133_15⟩ := at_T44 HR0_1.out x12_1 p133 q133
    cases e133
    replace hx133_0 := pw_cell_below HB.out hx133_0
    replace hx133_1 := pw_cell_below HB.out hx133_1
    replace hx133_2 := pw_cell_below HB.out hx133_2
    replace hx133_3 := pw_cell_below HB.out hx133_3
    replace hx133_4 := pw_cell_below HB.out hx133_4
    replace hx133_5 := pw_cell_below HB.out hx133_5
    replace hx133_6 := pw_cell_below HB.out hx133_6
    replace hx133_7 := pw_cell_below HB.out hx133_7
    replace hx133_8 := pw_cell_below HB.out hx133_8
    replace hx133_9 := pw_cell_below HB.out hx133_9
    replace hx133_10 := pw_cell_below HB.out hx133_10
    replace hx133_11 := pw_cell_below HB.out hx133_11
    replace hx133_12 := pw_cell_below HB.out hx133_12
    replace hx133_13 := pw_cell_below HB.out hx133_13
    replace hx133_14 := pw_cell_below HB.out hx133_14
    replace hx133_15 := pw_cell_below HB.out hx133_15
    have HR133_1 := Aside0.mk hi133_1
    have HC133_1 := Aside0.mk hl133_1
    clear hi133_1 hl133_1
    have HR133_4 := Aside0.mk hi133_4
    have HC133_4 := Aside0.mk hl133_4
    clear hi133_4 hl133_4
    have HR133_8 := Aside0.mk hi133_8
    have HC133_8 := Aside0.mk hl133_8
    clear hi133_8 hl133_8
    have HR133_9 := Aside0.mk hi133_9
    have HC133_9 := Aside0.mk hl133_9
    clear hi133_9 hl133_9
    have HR133_13 := Aside0.mk hi133_13
    have HC133_13 := Aside0.mk hl133_13
    clear hi133_13 hl133_13
    have HR133_14 := Aside0.mk hi133_14
    have HC133_14 := Aside0.mk hl133_14
    clear hi133_14 hl133_14
    have HR133_15 := Aside0.mk hi133_15
    have HC133_15 := Aside0.mk hl133_15
    clear hi133_15 hl133_15
    replace p133 := eq_true p133
    replace q133 := eq_true q133
    go_upto_region 5 with (first | ((with_reducible refine gate_dst (N := 4) rfl ?_); (try (refine gate_guard (by rfl) ?_; dsimp only)); refine box_event ?hg (N := 4) ?hd (cs := #[.int .i64 0, .slice none 0 0, .string (⟨#[]⟩ : ByteArray), .int .i64 0, .slice none 0 0, .int .i64 0, .int .i64 0, .int .i64 0, .slice none 0 0, .slice none 0 0, .int .i64 0, .int .i64 0, .int .i64 0, .slice none 0 0, .slice none 0 0, .slice none 0 0]) (t := 44) ?hr ?_; (case hd => rfl); (case hg => rfl); (case hr => first | (go_simp; done) | (go_simp; rfl)); intro gb134 hg w9 hbox hb; have BK134 := Aside0.mk (hbox); have GW134 := Aside0.mk ((by rw [hg]; exact below_sizeA : w.heap.size ≤ gb134)); have GE134 := GW134; have NB131_134 := Aside0.mk ((by rw [hg]; exact Nat.ne_of_lt (blk_ltKA BK131.out) : gb131 ≠ gb134)); have NB134_131 := Aside0.mk NB131_134.out.symm; replace BK131 := Aside0.mk (blk_keepA BK131.out hb); replace HB := Aside0.mk (below_stepA hb); clear hb hbox hg; have hnb10 := NB134_131.out; have hnc10 := NB131_134.out; have hz11 := blk16 BK134.out) | ((with_reducible refine gate_callee (f := 27) rfl ?_); refine goesL_ (some 20) rfl rfl Try.func27 (by kernel_rfl) rfl #[.int .i64 ((rd_T44 l0_1 x12_1).f0)] rfl mapA ?_; (with_reducible refine (bounds_of.calls _ t135 t136 t137 t138 t139 _ A7.out).mono ?_); rintro e w12 ⟨rfl, hb⟩; refine ⟨_, rfl, ?_⟩; replace BK131 := Aside0.mk (blk_keepA BK131.out hb); replace BK134 := Aside0.mk (blk_below (g := gb134) (o := .cells (A44 (rd_T44 l0_1 x12_1) A133_1 c133_1 A133_4 c133_4 A133_8 c133_8 A133_9 c133_9 A133_13 c133_13 A133_14 c133_14 A133_15 c133_15) 44 (0, 0)) (blk_move BK134.out) hb); replace HB := Aside0.mk (below_stepA hb); (try clear hb)) | ((with_reducible refine gate_dst (N := 5) rfl ?_); (try (refine gate_guard (by rfl) ?_; dsimp only)); refine box_event ?hg (N := 5) ?hd (cs := #[.int .i64 0, fnV (none : Option Nat), fnV (none : Option Nat), .bool false]) (t := 65) ?hr ?_; (case hd => rfl); (case hg => rfl); (case hr => first | (go_simp; done) | (go_simp; rfl)); intro gb140 hg w13 hbox hb; have BK140 := Aside0.mk (hbox); have GW140 := Aside0.mk ((by rw [hg]; exact below_sizeA : w.heap.size ≤ gb140)); have GE140 := GW140; have NB131_140 := Aside0.mk ((by rw [hg]; exact Nat.ne_of_lt (blk_ltKA BK131.out) : gb131 ≠ gb140)); have NB140_131 := Aside0.mk NB131_140.out.symm; have NB134_140 := Aside0.mk ((by rw [hg]; exact Nat.ne_of_lt (blk_ltKA BK134.out) : gb134 ≠ gb140)); have NB140_134 := Aside0.mk NB134_140.out.symm; replace BK131 := Aside0.mk (blk_keepA BK131.out hb); replace BK134 := Aside0.mk (blk_keepA BK134.out hb); replace HB := Aside0.mk (below_stepA hb); clear hb hbox hg; have hnb14 := NB140_131.out; have hnc14 := NB131_140.out; have hnb15 := NB140_134.out; have hnc15 := NB134_140.out; have hz16 := blk4 BK140.out))
    (try simp only [Act.put, List.setIfInBounds_toArray, List.set_cons_zero, List.set_cons_succ])
    go_cut [32] (fun v32 wc => ∃ (kq : Nat) (x32_7 : Bool), v32 = .bool x32_7 ∧ Aside0 (bounds_Well.j1 kq x12_1 l0_1 (l0_1.length : Int) x12_1 x32_7 l0_0 l0_1 ((rd_T44 l0_1 x12_1).f0) ((rd_T44 l0_1 x12_1).f1) ((rd_T44 l0_1 x12_1).f2) ((rd_T44 l0_1 x12_1).f3) ((rd_T44 l0_1 x12_1).f4) ((rd_T44 l0_1 x12_1).f5) ((rd_T44 l0_1 x12_1).f6) ((rd_T44 l0_1 x12_1).f7) ((rd_T44 l0_1 x12_1).f8) ((rd_T44 l0_1 x12_1).f9) ((rd_T44 l0_1 x12_1).f10) ((rd_T44 l0_1 x12_1).f11) ((rd_T44 l0_1 x12_1).f12) ((rd_T44 l0_1 x12_1).f13) ((rd_T44 l0_1 x12_1).f14) ((rd_T44 l0_1 x12_1).f15) = some r) ∧ Aside0 (kq ≤ k1) ∧ Aside0 (wc.heap[gb131]? = some (.cells #[(.slice A0_0 l0_0.length c0_0), (.slice (some ad133) l0_1.length c0_1)] 25 (0, 0))) ∧ Aside0 (wc.heap[gb134]? = some (.cells #[.int .i64 ((rd_T44 l0_1 x12_1).f0), (.slice A133_1 ((rd_T44 l0_1 x12_1).f1).length c133_1), .string ((rd_T44 l0_1 x12_1).f2), .int .i64 ((rd_T44 l0_1 x12_1).f3), (.slice A133_4 ((rd_T44 l0_1 x12_1).f4).length c133_4), .int .i64 ((rd_T44 l0_1 x12_1).f5), .int .i64 ((rd_T44 l0_1 x12_1).f6), .int .i64 ((rd_T44 l0_1 x12_1).f7), (.slice A133_8 ((rd_T44 l0_1 x12_1).f8).length c133_8), (.slice A133_9 ((rd_T44 l0_1 x12_1).f9).length c133_9), .int .i64 ((rd_T44 l0_1 x12_1).f10), .int .i64 ((rd_T44 l0_1 x12_1).f11), .int .i64 ((rd_T44 l0_1 x12_1).f12), (.slice A133_13 ((rd_T44 l0_1 x12_1).f13).length c133_13), (.slice A133_14 ((rd_T44 l0_1 x12_1).f14).length c133_14), (.slice A133_15 ((rd_T44 l0_1 x12_1).f15).length c133_15)] 44 (0, 0))) ∧ Aside0 (wc.heap[gb140]? = some (.cells #[.int .i64 t135, fnV t136, fnV t137, .bool t138] 65 (0, 0))) ∧ Aside0 (Below w.heap.size w wc))
    case first =>
     have H := HC8.out
     clear HC8
     by_cases c17 : t139 = true
     ·
      subst c17
      rw [if_pos rfl] at H
      have H' := Aside0.mk H
      clear H
      have hnb18 := NB134_131.out
      have hnc18 := NB131_134.out
      have hnb19 := NB134_140.out
      have hnc19 := NB140_134.out
      have hz20 := blk16 BK134.out
      have hnb21 := NB140_131.out
      have hnc21 := NB131_140.out
      have hz22 := blk4 BK140.out
      go_wp2
      go_meet
      case rel => exact ⟨_, (((((rd_T44 l0_1 x12_1).f1).length : Int) != t135)), (by first | rfl | (simp; done) | (simp [*]; done)), H', ⟨by have := HK1.out; first | omega | exact Nat.le_refl _⟩, ⟨blk_move BK131.out⟩, ⟨blk_move BK134.out⟩, ⟨blk_move BK140.out⟩, ⟨by repeat (first | (with_reducible first | exact HB.out | apply below_alloc | apply pw_below_drewN | apply below_drew1 | refine below_set ?_ GE131.out | refine below_set ?_ GE134.out | refine below_set ?_ GE140.out) | exact HB.out)⟩⟩
     ·
      replace c17 := Bool.eq_false_iff.mpr c17
      subst c17
      rw [if_neg (show ¬ (false = true) by decide)] at H
      have H' := Aside0.mk H
      clear H
      go_wp2
      go_meet
      case rel => exact ⟨_, (true), (by first | rfl | (simp; done) | (simp [*]; done)), H', ⟨by have := HK1.out; first | omega | exact Nat.le_refl _⟩, ⟨blk_move BK131.out⟩, ⟨blk_move BK134.out⟩, ⟨blk_move BK140.out⟩, ⟨by repeat (first | (with_reducible first | exact HB.out | apply below_alloc | apply pw_below_drewN | apply below_drew1 | refine below_set ?_ GE131.out | refine below_set ?_ GE134.out | refine below_set ?_ GE140.out) | exact HB.out)⟩⟩
    case rest =>
     clear HC8
     try clear c1
     try clear p1
     try clear q1
     try clear hx1
     try clear c2
     try clear p2
     try clear c4
     try clear c4b0
     try clear c5
     try clear c5b0
     try clear c6
     try clear c6b0
     try clear c10
     try clear c13
     try clear p13
     try clear q13
     try clear hx13
     try clear c14
     try clear c15
     try clear c17
     try clear c18
     try clear c19
     try clear c21
     try clear hz11
     try clear hz16
     try clear hz20
     try clear hz22
     try clear hz3
     try clear hx133_0
     try clear hx133_1
     try clear hx133_10
     try clear hx133_11
     try clear hx133_12
     try clear hx133_13
     try clear hx133_14
     try clear hx133_15
     try clear hx133_2
     try clear hx133_3
     try clear hx133_4
     try clear hx133_5
     try clear hx133_6
     try clear hx133_7
     try clear hx133_8
     try clear hx133_9
     try clear p133
     try clear p2
     try clear q133
     obtain ⟨kq, x32_7, rfl, HA, HJ7, BK131, BK134, BK140, HB⟩ := hcut
     cases kq with
     | zero => exact absurd HA.out (by simp [bounds_Well.j1])
     | succ kj7 =>
      have H := HA.out
      clear HA
      simp only [bounds_Well.j1] at H
      by_cases c23 : x32_7 = true
      ·
       subst c23
       rw [if_pos rfl] at H
       obtain rfl := Option.some.inj H
       go_wp2
       go_ret
       exact ⟨by first | rfl | (simp [errW_none, errW_some] <;> rfl) | (simp [*, errW_none, errW_some] <;> rfl), belowA⟩
      ·
       replace c23 := Bool.eq_false_iff.mpr c23
       subst c23
       rw [if_neg (show ¬ (false = true) by decide)] at H
       have H' := Aside0.mk H
       clear H
       have hnb24 := NB134_131.out
       have hnc24 := NB131_134.out
       have hnb25 := NB134_140.out
       have hnc25 := NB140_134.out
       have hz26 := blk16 BK134.out
       go_wp2
       go_loopg [36] kj7 (fun kq v36 w' => ∃ (x36_3 : Int), v36 = .int .i64 x36_3 ∧ Aside0 (bounds_Well.l1 kq x12_1 l0_1 (l0_1.length : Int) x12_1 ((rd_T44 l0_1 x12_1).f1) (((rd_T44 l0_1 x12_1).f1).length : Int) x36_3 l0_0 l0_1 = some r) ∧ Aside0 (kq ≤ kj7) ∧ Aside0 (w'.heap[gb131]? = some (.cells #[(.slice A0_0 l0_0.length c0_0), (.slice (some ad133) l0_1.length c0_1)] 25 (0, 0))) ∧ Aside0 (w'.heap[gb134]? = some (.cells #[.int .i64 ((rd_T44 l0_1 x12_1).f0), (.slice A133_1 ((rd_T44 l0_1 x12_1).f1).length c133_1), .string ((rd_T44 l0_1 x12_1).f2), .int .i64 ((rd_T44 l0_1 x12_1).f3), (.slice A133_4 ((rd_T44 l0_1 x12_1).f4).length c133_4), .int .i64 ((rd_T44 l0_1 x12_1).f5), .int .i64 ((rd_T44 l0_1 x12_1).f6), .int .i64 ((rd_T44 l0_1 x12_1).f7), (.slice A133_8 ((rd_T44 l0_1 x12_1).f8).length c133_8), (.slice A133_9 ((rd_T44 l0_1 x12_1).f9).length c133_9), .int .i64 ((rd_T44 l0_1 x12_1).f10), .int .i64 ((rd_T44 l0_1 x12_1).f11), .int .i64 ((rd_T44 l0_1 x12_1).f12), (.slice A133_13 ((rd_T44 l0_1 x12_1).f13).length c133_13), (.slice A133_14 ((rd_T44 l0_1 x12_1).f14).length c133_14), (.slice A133_15 ((rd_T44 l0_1 x12_1).f15).length c133_15)] 44 (0, 0))) ∧ Aside0 (w'.heap[gb140]? = some (.cells #[.int .i64 t135, fnV t136, fnV t137, .bool t138] 65 (0, 0))) ∧ Aside0 (Below w.heap.size w w'))
       case atStart => exact ⟨(0), (by first | rfl | (simp; done) | (simp [*]; done)), H', ⟨Nat.le_refl _⟩, ⟨blk_move BK131.out⟩, ⟨blk_move BK134.out⟩, ⟨blk_move BK140.out⟩, ⟨by repeat (first | (with_reducible first | exact HB.out | apply below_alloc | apply pw_below_drewN | apply below_drew1 | refine below_set ?_ GE131.out | refine below_set ?_ GE134.out | refine below_set ?_ GE140.out) | exact HB.out)⟩⟩
       case round =>
        clear H'
        try clear c1
        try clear p1
        try clear q1
        try clear hx1
        try clear c2
        try clear p2
        try clear c4
        try clear c4b0
        try clear c5
        try clear c5b0
        try clear c6
        try clear c6b0
        try clear c10
        try clear c13
        try clear p13
        try clear q13
        try clear hx13
        try clear c14
        try clear c15
        try clear c17
        try clear c18
        try clear c19
        try clear c21
        try clear c23
        try clear c24
        try clear c25
        try clear hz11
        try clear hz16
        try clear hz20
        try clear hz22
        try clear hz26
        try clear hz3
        try clear hx133_0
        try clear hx133_1
        try clear hx133_10
        try clear hx133_11
        try clear hx133_12
        try clear hx133_13
        try clear hx133_14
        try clear hx133_15
        try clear hx133_2
        try clear hx133_3
        try clear hx133_4
        try clear hx133_5
        try clear hx133_6
        try clear hx133_7
        try clear hx133_8
        try clear hx133_9
        try clear p1
        try clear p13
        try clear p133
        try clear p2
        try clear q1
        try clear q13
        try clear q133
        obtain ⟨x36_3, rfl, HA, HK3, BK131, BK134, BK140, HB⟩ := hrel
        cases gk with
        | zero => exact absurd HA.out (by simp [bounds_Well.l1])
        | succ k3 =>
         have H := HA.out
         clear HA
         simp only [bounds_Well.l1] at H
         by_cases c27 : x36_3 < (((rd_T44 l0_1 x12_1).f1).length : Int)
         ·
          rw [if_pos c27] at H
          have c27b0 : decide (x36_3 < (((rd_T44 l0_1 x12_1).f1).length : Int)) = true := decide_eq_true c27
          clear c27
          by_cases c28 : 0 ≤ x36_3
          case neg => rw [if_neg c28] at H; exact absurd H (by simp)
          rw [if_pos c28] at H
          have c28b0 : decide (0 ≤ x36_3) = true := decide_eq_true c28
          clear c28
          by_cases c29 : x36_3 < (((rd_T44 l0_1 x12_1).f1).length : Int)
          case neg => rw [if_neg c29] at H; exact absurd H (by simp)
          rw [if_pos c29] at H
          have c29b0 : decide (x36_3 < (((rd_T44 l0_1 x12_1).f1).length : Int)) = true := decide_eq_true c29
          clear c29
          replace H := Option.bind_eq_some_iff.mp H
          obtain ⟨t142, A300, H⟩ := H
          try dsimp only at H
          have A30 := Aside0.mk A300
          clear A300
          by_cases c31 : t142 = true
          ·
           subst c31
           rw [if_pos rfl] at H
           have H' := Aside0.mk H
           clear H
           have p141 : 0 ≤ (x36_3 : Int) := odA
           have q141 : x36_3 < (((rd_T44 l0_1 x12_1).f1).length : Int) := odA
           obtain ⟨ad141, e141, hx141_0⟩ := Kd.at_int HR133_1.out x36_3 p141 q141
           cases e141
           replace hx141_0 := pw_cell_below HB.out hx141_0
           replace p141 := eq_true p141
           replace q141 := eq_true q141
           go_wp2_with (first | ((with_reducible refine gate_callee (f := 28) rfl ?_); refine goesL_ (some 43) rfl rfl Try.func28 (by kernel_rfl) rfl #[.int .i64 (rd ((rd_T44 l0_1 x12_1).f1) x36_3), .int .i64 0, .int .i64 (wrap64 (x12_1 - 1))] rfl mapA ?_; (with_reducible refine (bounds_within.calls _ 0 (wrap64 (x12_1 - 1)) true _ A30.out).mono ?_); rintro e w' ⟨rfl, ⟨nd, rfl⟩⟩; refine ⟨_, rfl, ?_⟩))
           go_roundg k3
           case measure => have := HK1.out; have := HJ7.out; have := HK3.out; omega
           case rel => exact ⟨(wrap64 (x36_3 + 1)), (by first | rfl | (simp; done) | (simp [*]; done)), H', ⟨by have := HK1.out; have := HJ7.out; have := HK3.out; omega⟩, ⟨blk_move BK131.out⟩, ⟨blk_move BK134.out⟩, ⟨blk_move BK140.out⟩, ⟨by repeat (first | (with_reducible first | exact HB.out | apply below_alloc | apply pw_below_drewN | apply below_drew1 | refine below_set ?_ GE131.out | refine below_set ?_ GE134.out | refine below_set ?_ GE140.out) | exact HB.out)⟩⟩
          ·
           replace c31 := Bool.eq_false_iff.mpr c31
           subst c31
           rw [if_neg (show ¬ (false = true) by decide)] at H
           obtain rfl := Option.some.inj H
           have p141 : 0 ≤ (x36_3 : Int) := odA
           have q141 : x36_3 < (((rd_T44 l0_1 x12_1).f1).length : Int) := odA
           obtain ⟨ad141, e141, hx141_0⟩ := Kd.at_int HR133_1.out x36_3 p141 q141
           cases e141
           replace hx141_0 := pw_cell_below HB.out hx141_0
           replace p141 := eq_true p141
           replace q141 := eq_true q141
           go_wp2_with (first | ((with_reducible refine gate_callee (f := 28) rfl ?_); refine goesL_ (some 43) rfl rfl Try.func28 (by kernel_rfl) rfl #[.int .i64 (rd ((rd_T44 l0_1 x12_1).f1) x36_3), .int .i64 0, .int .i64 (wrap64 (x12_1 - 1))] rfl mapA ?_; (with_reducible refine (bounds_within.calls _ 0 (wrap64 (x12_1 - 1)) false _ A30.out).mono ?_); rintro e w' ⟨rfl, ⟨nd, rfl⟩⟩; refine ⟨_, rfl, ?_⟩))
           go_ret
           exact ⟨by first | rfl | (simp [errW_none, errW_some] <;> rfl) | (simp [*, errW_none, errW_some] <;> rfl), belowA⟩
         ·
          rw [if_neg c27] at H
          have c27b0 : decide (x36_3 < (((rd_T44 l0_1 x12_1).f1).length : Int)) = false := decide_eq_false c27
          clear c27
          have H' := Aside0.mk H
          clear H
          go_wp2
          go_roundg k3
          case measure => have := HK1.out; have := HJ7.out; have := HK3.out; omega
          case rel => exact ⟨(wrap64 (x12_1 + 1)), (by first | rfl | (simp; done) | (simp [*]; done)), H', ⟨by have := HK1.out; have := HJ7.out; have := HK3.out; omega⟩, ⟨blk_move BK131.out⟩, ⟨by repeat (first | (with_reducible first | exact HB.out | apply below_alloc | apply pw_below_drewN | apply below_drew1 | refine below_set ?_ GE131.out | refine below_set ?_ GE134.out | refine below_set ?_ GE140.out) | exact HB.out)⟩⟩
   ·
    rw [if_neg c4] at H
    have c4b0 : decide (x12_1 < (l0_1.length : Int)) = false := decide_eq_false c4
    clear c4
    replace H := Option.bind_eq_some_iff.mp H
    obtain ⟨t132, A320, H⟩ := H
    try dsimp only at H
    have A32 := Aside0.mk A320
    clear A320
    obtain rfl := Option.some.inj H
    have hz33 := blk2 BK131.out
    go_wp2_with (first | ((with_reducible refine gate_callee (f := 28) rfl ?_); refine goesL_ (some 50) rfl rfl Try.func28 (by kernel_rfl) rfl #[.int .i64 (l0_1.length : Int), .int .i64 1, .int .i64 40] rfl mapA ?_; (with_reducible refine (bounds_within.calls (l0_1.length : Int) 1 40 t132 _ A32.out).mono ?_); rintro e w' ⟨rfl, ⟨nd, rfl⟩⟩; refine ⟨_, rfl, ?_⟩))
    go_ret
    exact ⟨by first | rfl | (simp [errW_none, errW_some] <;> rfl) | (simp [*, errW_none, errW_some] <;> rfl), belowA⟩

end Go.Proofs.Yteoljddobfnfiaa.PB
end
section
namespace Go.Proofs.Yteoljddobfnfiaa.Pure
open Go.RowKit Go.Proofs.YteoljddobfnfiaaW.PrintWords Go.Proofs.YteoljddobfnfiaaW.PrintLast Go.Proofs.YteoljddobfnfiaaW.PrintMore Go.Proofs.Yteoljddobfnfiaa.PB
set_option linter.unusedVariables false
set_option linter.unusedSimpArgs false

def ins (op : Int) : Int := if op = 0 then 0 else if op = 3 ∨ op = 6 ∨ op = 7 then 2 else 1
def okIn (i : Int) (l : List Int) : Bool := l.all fun x => decide (0 ≤ x ∧ x < i)
def okNode (i : Int) (n : S44) : Bool := decide (0 ≤ n.f0 ∧ n.f0 ≤ 8) && (decide ((n.f1.length : Int) = ins n.f0) && okIn i n.f1)
def okFrom : Int → List S44 → Bool
  | _, [] => true
  | i, n :: r => okNode i n && okFrom (i + 1) r
def well (l : List S44) : Bool := okFrom 0 l && decide (1 ≤ (l.length : Int) ∧ (l.length : Int) ≤ 40)

theorem rd_at {l : List Int} {i : Nat} (h : i < l.length) : rd l (i : Int) = l[i] := by
  unfold rd
  simp [List.getD_eq_getElem?_getD, List.getElem?_eq_getElem h]
theorem rd44_at {l : List S44} {i : Nat} (h : i < l.length) : rd_T44 l (i : Int) = l[i] := by
  unfold rd_T44
  simp [List.getD_eq_getElem?_getD, List.getElem?_eq_getElem h]
theorem okIn_cons (i x : Int) (l : List Int) : okIn i (x :: l) = (decide (0 ≤ x ∧ x < i) && okIn i l) := by simp [okIn]
theorem of_eq (op : Int) : bounds_of.f op = some (if 0 ≤ op ∧ op ≤ 8 then ins op else 0, (bounds_of.f op).get!.2.1, (bounds_of.f op).get!.2.2.1, decide (4 ≤ op ∧ op ≤ 8), decide (0 ≤ op ∧ op ≤ 8)) := by
  by_cases h : 0 ≤ op ∧ op ≤ 8
  · have hc : op = 0 ∨ op = 1 ∨ op = 2 ∨ op = 3 ∨ op = 4 ∨ op = 5 ∨ op = 6 ∨ op = 7 ∨ op = 8 := by omega
    rcases hc with rfl | rfl | rfl | rfl | rfl | rfl | rfl | rfl | rfl <;> rfl
  · have e : bounds_of.f op = some (0, none, none, false, false) := by
      unfold bounds_of.f
      rw [if_neg (by omega), if_neg (by omega), if_neg (by omega), if_neg (by omega), if_neg (by omega), if_neg (by omega), if_neg (by omega), if_neg (by omega), if_neg (by omega)]
    rw [e, if_neg h, decide_eq_false h, decide_eq_false (by omega)]
    rfl
theorem cast_succ (j : Nat) : (j : Int) + 1 = ((j + 1 : Nat) : Int) := by omega

theorem Well_in (i : Int) (x10 l : List S44) (x11 x12 : Int) (F : List S95) (In : List Int) (hi : 0 ≤ i ∧ i ≤ 9223372036854775807) (hn : In.length ≤ 9223372036854775807) (rest : Bool)
    (hr : Ev (fun k => bounds_Well.l0 k x10 x11 (wrap64 (x12 + 1)) F l) rest) : ∀ d j : Nat, j + d = In.length → Ev (fun k => bounds_Well.l1 k i x10 x11 x12 In (In.length : Int) (j : Int) F l) (okIn i (In.drop j) && rest)
  | 0, j, h => by
    refine Ev.step (f := fun k => bounds_Well.l0 k x10 x11 (wrap64 (x12 + 1)) F l) (fun k => ?_) (by rw [List.drop_of_length_le (by omega)]; simpa [okIn] using hr)
    simp only [bounds_Well.l1]
    rw [if_neg (by omega)]
  | d + 1, j, h => by
    have hj : j < In.length := by omega
    have e : In.drop j = In[j] :: In.drop (j + 1) := List.drop_eq_getElem_cons hj
    have ih := Well_in i x10 l x11 x12 F In hi hn rest hr d (j + 1) (by omega)
    by_cases hx : 0 ≤ In[j] ∧ In[j] < i
    · refine Ev.step (f := fun k => bounds_Well.l1 k i x10 x11 x12 In (In.length : Int) ((j + 1 : Nat) : Int) F l) (fun k => ?_) (by rw [e, okIn_cons, decide_eq_true hx]; simpa using ih)
      simp only [bounds_Well.l1]
      rw [if_pos (by omega), if_pos (by omega), if_pos (by omega), rd_at hj, within_eq, Option.bind_some, wrap_id (n := i - 1) (by omega) (by omega), if_pos (decide_eq_true (by omega)), wrap_id (n := (j : Int) + 1) (by omega) (by omega), cast_succ]
    · refine Ev.step (f := fun _ => some (okIn i (In.drop j) && rest)) (fun k => ?_) (Ev.now _)
      rw [e, okIn_cons, decide_eq_false hx]
      simp only [bounds_Well.l1]
      rw [if_pos (by omega), if_pos (by omega), if_pos (by omega), rd_at hj, within_eq, Option.bind_some, wrap_id (n := i - 1) (by omega) (by omega), if_neg (by simp; omega)]
      rfl
theorem Well_from (l : List S44) (F : List S95) (hl : l.length ≤ 9223372036854775807) (hin : ∀ n ∈ l, n.f1.length ≤ 9223372036854775807) : ∀ d i : Nat, i + d = l.length →
    Ev (fun k => bounds_Well.l0 k l (l.length : Int) (i : Int) F l) (okFrom i (l.drop i) && decide (1 ≤ (l.length : Int) ∧ (l.length : Int) ≤ 40))
  | 0, i, h => by
    refine Ev.step (f := fun _ => some (okFrom i (l.drop i) && decide (1 ≤ (l.length : Int) ∧ (l.length : Int) ≤ 40))) (fun k => ?_) (Ev.now _)
    simp only [bounds_Well.l0]
    rw [if_neg (by omega), within_eq, Option.bind_some, List.drop_of_length_le (by omega)]
    simp [okFrom]
  | d + 1, i, h => by
    have hi : i < l.length := by omega
    have e : l.drop i = l[i] :: l.drop (i + 1) := List.drop_eq_getElem_cons hi
    have ih := Well_from l F hl hin d (i + 1) (by omega)
    have hlen := hin l[i] (List.getElem_mem hi)
    rw [← cast_succ] at ih
    have ihw : Ev (fun k => bounds_Well.l0 k l (l.length : Int) (wrap64 ((i : Int) + 1)) F l) (okFrom ((i : Int) + 1) (l.drop (i + 1)) && decide (1 ≤ (l.length : Int) ∧ (l.length : Int) ≤ 40)) := by
      rw [wrap_id (n := (i : Int) + 1) (by omega) (by omega)]
      exact ih
    by_cases ho : 0 ≤ (l[i]).f0 ∧ (l[i]).f0 ≤ 8
    · by_cases hc : ((l[i]).f1.length : Int) = ins (l[i]).f0
      · have hw := Well_in (i : Int) l l (l.length : Int) (i : Int) F (l[i]).f1 (by omega) hlen _ ihw (l[i]).f1.length 0 (by omega)
        rw [List.drop_zero] at hw
        refine Ev.step (f := fun k => bounds_Well.j1 k (i : Int) l (l.length : Int) (i : Int) false F l (l[i]).f0 (l[i]).f1 (l[i]).f2 (l[i]).f3 (l[i]).f4 (l[i]).f5 (l[i]).f6 (l[i]).f7 (l[i]).f8 (l[i]).f9 (l[i]).f10 (l[i]).f11 (l[i]).f12 (l[i]).f13 (l[i]).f14 (l[i]).f15) (fun k => ?_)
          (Ev.step (f := fun k => bounds_Well.l1 k (i : Int) l (l.length : Int) (i : Int) (l[i]).f1 ((l[i]).f1.length : Int) 0 F l) (fun k => ?_) ?_)
        · simp only [bounds_Well.l0]
          rw [if_pos (by omega), if_pos (by omega), if_pos (by omega), rd44_at hi, of_eq, Option.bind_some]
          simp only [decide_eq_true ho, if_true, if_pos ho]
          rw [show (((l[i]).f1.length : Int) != ins (l[i]).f0) = false by simp [hc]]
        · simp only [bounds_Well.j1]
          rw [if_neg (by decide)]
        · rw [e]
          simp only [okFrom, okNode, decide_eq_true ho, decide_eq_true hc, Bool.true_and, Bool.and_assoc]
          exact hw
      · refine Ev.step (f := fun k => bounds_Well.j1 k (i : Int) l (l.length : Int) (i : Int) true F l (l[i]).f0 (l[i]).f1 (l[i]).f2 (l[i]).f3 (l[i]).f4 (l[i]).f5 (l[i]).f6 (l[i]).f7 (l[i]).f8 (l[i]).f9 (l[i]).f10 (l[i]).f11 (l[i]).f12 (l[i]).f13 (l[i]).f14 (l[i]).f15) (fun k => ?_)
          (Ev.step (f := fun k => some false) (fun k => ?_) ?_)
        · simp only [bounds_Well.l0]
          rw [if_pos (by omega), if_pos (by omega), if_pos (by omega), rd44_at hi, of_eq, Option.bind_some]
          simp only [decide_eq_true ho, if_true, if_pos ho]
          rw [show (((l[i]).f1.length : Int) != ins (l[i]).f0) = true by simp [hc]]
        · simp only [bounds_Well.j1, if_true]
        · rw [e]
          simp only [okFrom, okNode, decide_eq_false hc, Bool.false_and, Bool.and_false]
          exact Ev.now _
    · refine Ev.step (f := fun k => bounds_Well.j1 k (i : Int) l (l.length : Int) (i : Int) true F l (l[i]).f0 (l[i]).f1 (l[i]).f2 (l[i]).f3 (l[i]).f4 (l[i]).f5 (l[i]).f6 (l[i]).f7 (l[i]).f8 (l[i]).f9 (l[i]).f10 (l[i]).f11 (l[i]).f12 (l[i]).f13 (l[i]).f14 (l[i]).f15) (fun k => ?_)
        (Ev.step (f := fun k => some false) (fun k => ?_) ?_)
      · simp only [bounds_Well.l0]
        rw [if_pos (by omega), if_pos (by omega), if_pos (by omega), rd44_at hi, of_eq, Option.bind_some]
        simp only [decide_eq_false ho]
        rw [if_neg (by decide)]
      · simp only [bounds_Well.j1, if_true]
      · rw [e]
        simp only [okFrom, okNode, decide_eq_false ho, Bool.false_and]
        exact Ev.now _
theorem Well_ev (l : List S44) (F : List S95) (hl : l.length ≤ 9223372036854775807) (hin : ∀ n ∈ l, n.f1.length ≤ 9223372036854775807) : Ev (fun k => bounds_Well.f k F l) (well l) := by
  have := Well_from l F hl hin l.length 0 (by omega)
  rw [List.drop_zero] at this
  exact this
end Go.Proofs.Yteoljddobfnfiaa.Pure
end
section
namespace Go.Proofs.Yteoljddobfnfiaa.PB
open Go.RowKit Go.Proofs.YteoljddobfnfiaaW.PrintWords Go.Proofs.YteoljddobfnfiaaW.PrintLast Go.Proofs.YteoljddobfnfiaaW.PrintMore
attribute [local go_sem] max2_int min2_int max_two min_two max_three min_three max_four min_four
attribute [local go_sem ↓ high] Go.Proofs.Yteoljddobfnfiaa.My.ld44_eq Go.Proofs.Yteoljddobfnfiaa.My.st44_eq Go.Proofs.Yteoljddobfnfiaa.My.ld27_eq Go.Proofs.Yteoljddobfnfiaa.My.st27_eq Go.Proofs.Yteoljddobfnfiaa.My.ld37_eq Go.Proofs.Yteoljddobfnfiaa.My.st37_eq Go.Proofs.Yteoljddobfnfiaa.My.ld65_eq Go.Proofs.Yteoljddobfnfiaa.My.st65_eq
attribute [local go_sem high] Go.Proofs.Yteoljddobfnfiaa.My.ld44_run Go.Proofs.Yteoljddobfnfiaa.My.st44_run Go.Proofs.Yteoljddobfnfiaa.My.ld27_run Go.Proofs.Yteoljddobfnfiaa.My.st27_run Go.Proofs.Yteoljddobfnfiaa.My.ld37_run Go.Proofs.Yteoljddobfnfiaa.My.st37_run Go.Proofs.Yteoljddobfnfiaa.My.ld65_run Go.Proofs.Yteoljddobfnfiaa.My.st65_run
open Go.Proofs.Yteoljddobfnfiaa.My
attribute [local go_sem] cell_map run_store_fnV one_int one_bool one_string one_slice one_fnV
set_option linter.unusedVariables false
set_option linter.unusedSimpArgs false

def bounds_plus.f (a0 : Int) (a1 : Int) : Option (Int) := some (mn (wrap64 (a0 + a1)) 1099511627776)
set_option maxHeartbeats 8000000 in
set_option maxRecDepth 100000 in
theorem bounds_plus.calls (a0 : Int) (a1 : Int) (r : Int) (w : World) (h : bounds_plus.f a0 a1 = some r) :
    Calls Try.prog 32 #[.int .i64 a0, .int .i64 a1] w fun e w' => e = .returned (.int .i64 r) ∧ Below w.heap.size w w' := by
 have HB := Aside0.mk (Below.refl w.heap.size w)
 have H : (some (mn (wrap64 (a0 + a1)) 1099511627776)) = some r := h
 clear h
 obtain ⟨ji3, hji3⟩ : ∃ j_ : Int, (mn (wrap64 (a0 + a1)) 1099511627776) = j_ := ⟨_, rfl⟩
 replace H : (some ji3) = some r := by first | (rw [hji3] at H; exact H) | (simp only [hji3] at H ⊢; exact H)
 (try (have hji3h : ji3 ≤ 1099511627776 := by (rw [← hji3]; unfold mn; (repeat' split) <;> omega)))
 (try (have hji3g : ji3 ≤ 64 := by omega))
 have hji3_ : (if 1099511627776 < (wrap64 (a0 + a1)) then 1099511627776 else (wrap64 (a0 + a1))) = ji3 := hji3
 obtain rfl := Option.some.inj H
 go_enter Try.func32, Try.ntmps32
 go_wp2
 go_ret
 exact ⟨by first | rfl | (simp [errW_none, errW_some] <;> rfl) | (simp only [← hji3]; first | rfl | (simp [errW_none, errW_some] <;> rfl)) | (simp [*, errW_none, errW_some] <;> rfl), belowA⟩

def bounds_times.f (a0 : Int) (a1 : Int) : Option (Int) := if a0 = 0 then (some (wrap64 (a0 * a1))) else (if a1 > (wrap64 (Int.tdiv (1099511627776 : Int) a0)) then (some 1099511627776) else (some (wrap64 (a0 * a1))))
set_option maxHeartbeats 8000000 in
set_option maxRecDepth 100000 in
theorem bounds_times.calls (a0 : Int) (a1 : Int) (r : Int) (w : World) (h : bounds_times.f a0 a1 = some r) :
    Calls Try.prog 35 #[.int .i64 a0, .int .i64 a1] w fun e w' => e = .returned (.int .i64 r) ∧ Drawn0 w w' := by
 have H : (if a0 = 0 then (some (wrap64 (a0 * a1))) else (if a1 > (wrap64 (Int.tdiv (1099511627776 : Int) a0)) then (some 1099511627776) else (some (wrap64 (a0 * a1))))) = some r := h
 clear h
 by_cases c3 : a0 = 0
 ·
  rw [if_pos c3] at H
  have c3b0 : (a0 == 0) = true := beq_iff_eq.mpr c3
  have c3b1 : (a0 != 0) = false := bne_eq_false_iff_eq.mpr c3
  clear c3
  obtain rfl := Option.some.inj H
  go_enter Try.func35, Try.ntmps35
  go_wp2
  go_ret
  exact ⟨by first | rfl | (simp; done) | (simp [*]; done), by repeat (first | exact Drawn0.refl _ | apply Drawn0.step)⟩
 ·
  rw [if_neg c3] at H
  have c3b0 : (a0 == 0) = false := beq_eq_false_iff_ne.mpr c3
  have c3b1 : (a0 != 0) = true := bne_iff_ne.mpr c3
  by_cases c4 : a1 > (wrap64 (Int.tdiv (1099511627776 : Int) a0))
  ·
   rw [if_pos c4] at H
   have c4b0 : decide ((wrap64 (Int.tdiv (1099511627776 : Int) a0)) < a1) = true := decide_eq_true c4
   clear c4
   obtain rfl := Option.some.inj H
   go_enter Try.func35, Try.ntmps35
   go_wp2
   go_ret
   exact ⟨by first | rfl | (simp; done) | (simp [*]; done), by repeat (first | exact Drawn0.refl _ | apply Drawn0.step)⟩
  ·
   rw [if_neg c4] at H
   have c4b0 : decide ((wrap64 (Int.tdiv (1099511627776 : Int) a0)) < a1) = false := decide_eq_false c4
   clear c4
   obtain rfl := Option.some.inj H
   go_enter Try.func35, Try.ntmps35
   go_wp2
   go_ret
   exact ⟨by first | rfl | (simp; done) | (simp [*]; done), by repeat (first | exact Drawn0.refl _ | apply Drawn0.step)⟩

end Go.Proofs.Yteoljddobfnfiaa.PB
end
