/- The contracts of place.sound and place.Check. -/
import Derived.Test.YthklhndcdijneaaGreatDoorC03
import Derived.Test.YthklhndcdijneaaGreatDoorC05
import Derived.Deep.RegionHeld3
namespace Go.Proofs.YthklhndcdijneaaGreatDoor
open Go.ChangeShapes Go.WideShapes Go.ChangeAt Go.RowKit
set_option linter.unusedVariables false
/-- what rules.Check accepts has a board, and types of pieces. -/
theorem rulesOk {R : RulesZ} (h : rulesErr R = 0) : (1 ≤ R.width ∧ R.width ≤ 8) ∧ (1 ≤ R.height ∧ R.height ≤ 8) ∧ (1 ≤ R.pieces.length ∧ R.pieces.length ≤ 6) := by
 unfold rulesErr at h
 by_cases e1 : nameOk R.name = false
 ·rw [if_pos e1] at h; cases h
 rw [if_neg e1] at h
 by_cases e2 : wb R.width 1 8 = false ∨ wb R.height 1 8 = false
 ·rw [if_pos e2] at h; cases h
 rw [if_neg e2] at h
 have hw : wb R.width 1 8 = true := by cases hb : wb R.width 1 8 <;> simp_all
 have hh : wb R.height 1 8 = true := by cases hb : wb R.height 1 8 <;> simp_all
 by_cases e3 : piecesErr R.pieces = 0
 ·refine ⟨(wb_iff _ _ _).1 hw, (wb_iff _ _ _).1 hh, ?_⟩
  unfold piecesErr at e3
  by_cases f1 : R.pieces.length = 0
  ·rw [if_pos f1] at e3; cases e3
  ·by_cases f2 : 6 < R.pieces.length
   ·rw [if_neg f1, if_pos f2] at e3; cases e3
   ·omega
 ·rw [if_pos e3] at h; exact absurd h e3
def soundErr (R : RulesZ) (p : PosZ) : Int :=
 if (p.cells.length : Int) ≠ R.width * R.height ∨ p.h0.length ≠ R.pieces.length ∨ p.h1.length ≠ R.pieces.length then 3
 else if p.cells.any (fun z => !wb z 0 (2 * (R.pieces.length : Int))) = true ∨ (p.h0 ++ p.h1).any (fun z => !wb z 0 1000) = true ∨ (p.turn ≠ 0 ∧ p.turn ≠ 1) ∨ p.quiet < 0 ∨ 200 < p.quiet then 4 else 0
def posErr (R : RulesZ) (p : PosZ) : Int := if rulesErr R ≠ 0 then rulesErr R else soundErr R p
theorem snd11_any (B1 B2 : Nat) (lo hi z : Int) (w : World) (h1 : w.cell? ⟨B1, 0, none⟩ = some (.int .i64 lo)) (h2 : w.cell? ⟨B2, 0, none⟩ = some (.int .i64 hi)) :
  Calls Tryz.prog 162 (#[.int .i64 z] ++ #[.pointer (some ⟨B1, 0, none⟩), .pointer (some ⟨B2, 0, none⟩)]) w fun e w' => e = .returned (.bool (!wb z lo hi)) ∧ w = w' := by
 show Calls Tryz.prog 162 #[.int .i64 z, .pointer (some ⟨B1, 0, none⟩), .pointer (some ⟨B2, 0, none⟩)] w _
 by_cases c1 : z < lo <;> by_cases c2 : hi < z
 all_goals
  have H : Hid ((!wb z lo hi) = (decide (z < lo) || decide (hi < z))) := Lib.hid (by unfold wb; by_cases e1 : lo ≤ z <;> by_cases e2 : z ≤ hi <;> simp [e1, e2] <;> omega)
  go_enter Tryz.func162, Tryz.ntmps162
  go_wp2
  go_ret
  exact ⟨by rw [H.out]; simp [c1, c2], rfl⟩
theorem callSnd11 (args : Array Value) (w : World) : (callFunc 162 args).run Tryz.prog w = .ok (.enter 162 args) w := by kernel_rfl
theorem callSnd1 (args : Array Value) (w : World) : (callFunc 161 args).run Tryz.prog w = .ok (.enter 161 args) w := by kernel_rfl
/-- the closure that is made for two bounds. -/
def IsOut (lo hi : Int) (v : Value) (w : World) : Prop := ∃ B1 B2, v = .func (.func 162) #[] #[.pointer (some ⟨B1, 0, none⟩), .pointer (some ⟨B2, 0, none⟩)] ∧ w.cell? ⟨B1, 0, none⟩ = some (.int .i64 lo) ∧ w.cell? ⟨B2, 0, none⟩ = some (.int .i64 hi)
def Snd1Post (lo hi : Int) (w : World) (e : Ending) (w' : World) : Prop := ∃ v, e = .returned v ∧ IsOut lo hi v w' ∧ Below w.heap.size w w'
theorem snd1_any (lo hi : Int) (w : World) : Calls Tryz.prog 161 #[.int .i64 lo, .int .i64 hi] w (Snd1Post lo hi w) := by
 go_enter Tryz.func161, Tryz.ntmps161
 go_wp2
 go_ret
 exact ⟨_, rfl, ⟨w.heap.size, w.heap.size + 1, rfl, by simp [go_sem], by simp [go_sem]⟩, ((Below.refl _ _).alloc (by go_size) _).alloc (by go_size) _⟩
theorem Contains_out (v f : Value) (zs : List Int) (lo hi : Int) (w : World) (h : RdI w v zs) (hf : IsOut lo hi f w) :
  Calls Tryz.prog 31 #[v, f] w fun e w' => e = .returned (.bool (zs.any fun z => !wb z lo hi)) ∧ w = w' := by
 obtain ⟨B1, B2, rfl, h1, h2⟩ := hf
 exact ContainsFunc_any v zs _ 162 _ w h callSnd11 (fun z _ => snd11_any B1 B2 lo hi z w h1 h2)
theorem below_undrew {W W' : World} (h : Below W.drew.heap.size W.drew W') : Below W.heap.size W W' := ⟨h.os, h.tape, h.output, h.size, h.block⟩
theorem Contains_b (v f : Value) (zs : List Int) (lo hi : Int) (b : Bool) (w : World) (hb : (zs.any fun z => !wb z lo hi) = b) (h : RdI w v zs) (hf : IsOut lo hi f w) :
  Calls Tryz.prog 31 #[v, f] w fun e w' => e = .returned (.bool b) ∧ w = w' := by subst hb; exact Contains_out v f zs lo hi w h hf
set_option maxRecDepth 100000 in
set_option maxHeartbeats 4000000 in
theorem sound_any (R : RulesZ) (vp vs ve : Value) (p : PosZ) (vc v0 v1 : Value) (w : World) (h : RdR w R vp vs ve) (hp : RdP w p vc v0 v1) (hr : rulesErr R = 0) :
  Calls Tryz.prog 159 #[(.agg #[.string R.name, .int .i64 R.width, .int .i64 R.height, vp, vs, .bool R.falls, .bool R.keeps, ve, .int .i64 R.blocked, .int .i64 R.quiet, .int .i64 R.rept]), (.agg #[vc, v0, v1, .int .i64 p.turn, .int .i64 p.quiet])] w fun e w' => e = .returned (.int .i64 (soundErr R p)) ∧ Below w.heap.size w w' := by
 have hok := rulesOk hr
 obtain ⟨hw, hh, hn⟩ := hok
 obtain ⟨ap, cp, rfl, _, _⟩ := h.1.form
 obtain ⟨ac, cc, rfl, hc1, hc2⟩ := hp.1.form
 obtain ⟨a0, c0, rfl, h01, h02⟩ := hp.2.1.form
 obtain ⟨a1, c1, rfl, h11, h12⟩ := hp.2.2.form
 unfold maxLen at hc2 h02 h12
 have HP := Lib.hid hp
 have hwh : 1 ≤ R.width * R.height ∧ R.width * R.height ≤ 64 := mul_in R.width R.height 8 8 hw.1 hw.2 hh.1 hh.2
 have HC : Hid (soundErr R p = if (p.cells.length : Int) ≠ R.width * R.height ∨ p.h0.length ≠ R.pieces.length ∨ p.h1.length ≠ R.pieces.length then 3
 else if p.cells.any (fun z => !wb z 0 (2 * (R.pieces.length : Int))) = true ∨ (p.h0 ++ p.h1).any (fun z => !wb z 0 1000) = true ∨ (p.turn ≠ 0 ∧ p.turn ≠ 1) ∨ p.quiet < 0 ∨ 200 < p.quiet then 4 else 0) := Lib.hid rfl
 clear h hp hr
 by_cases t1 : (p.cells.length : Int) = R.width * R.height
 rotate_left
 ·have HE : Hid (soundErr R p = 3) := Lib.hid (by rw [HC.out, if_pos (.inl t1)])
  have t1' : ((p.cells.length : Int) != R.width * R.height) = true := by simpa using t1
  clear t1
  go_enter Tryz.func159, Tryz.ntmps159
  go_wp2_with fail
  go_ret
  exact ⟨by rw [HE.out]; rfl, ((Below.refl _ _).alloc (by go_size) _).alloc (by go_size) _⟩
 have t1' : ((p.cells.length : Int) != R.width * R.height) = false := by simpa using t1
 have HT1 := Lib.hid t1
 clear t1
 by_cases t2 : p.h0.length = R.pieces.length
 rotate_left
 ·have HE : Hid (soundErr R p = 3) := Lib.hid (by rw [HC.out, if_pos (.inr (.inl t2))])
  have t2' : ((p.h0.length : Int) != (R.pieces.length : Int)) = true := by simp only [bne_iff_ne, ne_eq]; omega
  clear t2
  go_enter Tryz.func159, Tryz.ntmps159
  go_wp2_with fail
  go_ret
  exact ⟨by rw [HE.out]; rfl, ((Below.refl _ _).alloc (by go_size) _).alloc (by go_size) _⟩
 have t2' : ((p.h0.length : Int) != (R.pieces.length : Int)) = false := by simp only [bne_eq_false_iff_eq]; omega
 have HT2 := Lib.hid t2
 clear t2
 by_cases t3 : p.h1.length = R.pieces.length
 rotate_left
 ·have HE : Hid (soundErr R p = 3) := Lib.hid (by rw [HC.out, if_pos (.inr (.inr t3))])
  have t3' : ((p.h1.length : Int) != (R.pieces.length : Int)) = true := by simp only [bne_iff_ne, ne_eq]; omega
  clear t3
  go_enter Tryz.func159, Tryz.ntmps159
  go_wp2_with fail
  go_ret
  exact ⟨by rw [HE.out]; rfl, ((Below.refl _ _).alloc (by go_size) _).alloc (by go_size) _⟩
 have t3' : ((p.h1.length : Int) != (R.pieces.length : Int)) = false := by simp only [bne_eq_false_iff_eq]; omega
 have HT3 := Lib.hid t3
 have HC2 := Lib.hid (by have := HC.out; rw [if_neg (by simp [HT1.out, HT2.out, t3])] at this; exact this)
 clear t3 HC
 have l0 : p.h0.length ≤ 6 := by have := HT2.out; omega
 have l1 : p.h1.length ≤ 6 := by have := HT3.out; omega
 go_enter Tryz.func159, Tryz.ntmps159
 go_wp2_with fail
 refine (Concat_two _ _ _ p.h0 p.h1 _ ⟨_, _, _, rfl, by go_size, by simp [go_sem], by simp [go_sem]⟩ (HP.out.2.1.below ((((Below.refl _ _).alloc (Nat.le_refl _) _).alloc (by go_size) _).alloc (by go_size) _) (Nat.le_refl _)) (HP.out.2.2.below ((((Below.refl _ _).alloc (Nat.le_refl _) _).alloc (by go_size) _).alloc (by go_size) _) (Nat.le_refl _)) (by omega) (by omega)).mono ?_
 rintro e w1 ⟨vh, rfl, ho1, hb1⟩
 have hs1 := hb1.size
 simp at hs1
 have f0 : w1.cell? ⟨w.heap.size + 1, 0, none⟩ = some (.slice ac p.cells.length cc) := (hb1.cell (by go_size)).trans (by simp [go_sem])
 have f3 : w1.cell? ⟨w.heap.size + 1, 3, none⟩ = some (.int .i64 p.turn) := (hb1.cell (by go_size)).trans (by simp [go_sem])
 have f4 : w1.cell? ⟨w.heap.size + 1, 4, none⟩ = some (.int .i64 p.quiet) := (hb1.cell (by go_size)).trans (by simp [go_sem])
 have hz : w.heap.size + 1 < w1.heap.size := by omega
 have HB : Hid (Below w.heap.size w w1) := Lib.hid (((((Below.refl _ _).alloc (Nat.le_refl _) _).alloc (by go_size) _).alloc (by go_size) _).trans (hb1.mono (by go_size)))
 have HPc : Hid (RdI w1 (.slice ac p.cells.length cc) p.cells) := Lib.hid (HP.out.1.below HB.out (Nat.le_refl _))
 have HPh : Hid (RdI w1 vh (p.h0 ++ p.h1)) := Lib.hid (RdI.of_own ho1)
 have w2n : IntKind.i64.wrap (2 * (R.pieces.length : Int)) = 2 * (R.pieces.length : Int) := IntWalk.i64_in _ (by omega)
 have hfn := callSnd1
 clear ho1 hb1 hs1 HP t1' t2' t3' HT1 HT2 HT3
 cases t4 : p.cells.any (fun z => !wb z 0 (2 * (R.pieces.length : Int)))
 rotate_left
 ·have HT4 := Lib.hid t4
  clear t4
  have HE : Hid (soundErr R p = 4) := Lib.hid (by rw [HC2.out, if_pos (.inl HT4.out)])
  go_wp2_with fail
  refine wp_region_noPanic ?_
  refine wp_region_held_drew (S := (fun w' => w'.cell? ⟨w.heap.size + 1, 0, none⟩ = some (.slice ac p.cells.length cc) ∧ w'.cell? ⟨w.heap.size + 1, 3, none⟩ = some (.int .i64 p.turn) ∧ w'.cell? ⟨w.heap.size + 1, 4, none⟩ = some (.int .i64 p.quiet))) (by kernel_rfl) ⟨f0, f3, f4⟩ (fun hHeld => ?_)
  refine tkH 0 ?_
  refine tkH 2 ?_
  refine tkH 3 ?_
  refine tkH 1 ?_
  refine tkH 4 ?_
  refine cnH 5 fun K hK => ?_
  go_simp
  ((with_reducible refine (snd1_any _ _ _).mono ?_); rintro e w2 ⟨v2, rfl, hio, hb2⟩; have HIO := Lib.hid hio; (first | (have hb3 := below_undrew hb2) | (have hb3 := hb2)); replace f0 := (hb3.cell (p := ⟨w.heap.size + 1, 0, none⟩) hz).trans f0; replace f3 := (hb3.cell (p := ⟨w.heap.size + 1, 3, none⟩) hz).trans f3; replace f4 := (hb3.cell (p := ⟨w.heap.size + 1, 4, none⟩) hz).trans f4; replace HB := Lib.hid (below_trans HB.out hb3 HB.out.size); replace HPc := Lib.hid (HPc.out.below hb3 (Nat.le_refl _)); replace HPh := Lib.hid (HPh.out.below hb3 (Nat.le_refl _)); replace hz := Nat.lt_of_lt_of_le hz hb3.size; clear hio hb2 hb3)
  refine hK.out _ _ ⟨f0, f3, f4⟩ (fun hHeld => ?_)
  clear hK K
  refine cnH 6 fun K hK => ?_
  go_simp
  ((with_reducible refine (Contains_b _ _ p.cells _ _ _ _ HT4.out HPc.out HIO.out).mono ?_); rintro e w' ⟨rfl, rfl⟩; clear HIO)
  refine hK.out _ _ ⟨f0, f3, f4⟩ (fun hHeld => ?_)
  clear hK K
  refine tkH 7 ?_
  refine skH 8 ?_
  refine skH 9 ?_
  refine skH 10 ?_
  refine skH 11 ?_
  refine tkH 12 ?_
  refine tkH 13 ?_
  refine skH 14 ?_
  refine skH 15 ?_
  refine skH 16 ?_
  refine skH 17 ?_
  refine skH 18 ?_
  refine skH 19 ?_
  refine skH 20 ?_
  refine skH 21 ?_
  refine tkH 22 ?_
  refine tkH 23 ?_
  refine skH 24 ?_
  refine skH 25 ?_
  refine skH 26 ?_
  refine tkH 27 ?_
  refine tkH 28 ?_
  refine skH 29 ?_
  refine skH 30 ?_
  refine skH 31 ?_
  refine tkH 32 ?_
  refine dnH ?_
  refine NoPanic.normal ?_
  go_wp2_with fail
  go_ret
  exact ⟨by rw [HE.out]; rfl, HB.out⟩
 have HT4 := Lib.hid t4
 clear t4
 cases t5 : (p.h0 ++ p.h1).any (fun z => !wb z 0 1000)
 rotate_left
 ·have HT5 := Lib.hid t5
  clear t5
  have HE : Hid (soundErr R p = 4) := Lib.hid (by rw [HC2.out, if_pos (.inr (.inl HT5.out))])
  go_wp2_with fail
  refine wp_region_noPanic ?_
  refine wp_region_held_drew (S := (fun w' => w'.cell? ⟨w.heap.size + 1, 0, none⟩ = some (.slice ac p.cells.length cc) ∧ w'.cell? ⟨w.heap.size + 1, 3, none⟩ = some (.int .i64 p.turn) ∧ w'.cell? ⟨w.heap.size + 1, 4, none⟩ = some (.int .i64 p.quiet))) (by kernel_rfl) ⟨f0, f3, f4⟩ (fun hHeld => ?_)
  refine tkH 0 ?_
  refine tkH 2 ?_
  refine tkH 3 ?_
  refine tkH 1 ?_
  refine tkH 4 ?_
  refine cnH 5 fun K hK => ?_
  go_simp
  ((with_reducible refine (snd1_any _ _ _).mono ?_); rintro e w2 ⟨v2, rfl, hio, hb2⟩; have HIO := Lib.hid hio; (first | (have hb3 := below_undrew hb2) | (have hb3 := hb2)); replace f0 := (hb3.cell (p := ⟨w.heap.size + 1, 0, none⟩) hz).trans f0; replace f3 := (hb3.cell (p := ⟨w.heap.size + 1, 3, none⟩) hz).trans f3; replace f4 := (hb3.cell (p := ⟨w.heap.size + 1, 4, none⟩) hz).trans f4; replace HB := Lib.hid (below_trans HB.out hb3 HB.out.size); replace HPc := Lib.hid (HPc.out.below hb3 (Nat.le_refl _)); replace HPh := Lib.hid (HPh.out.below hb3 (Nat.le_refl _)); replace hz := Nat.lt_of_lt_of_le hz hb3.size; clear hio hb2 hb3)
  refine hK.out _ _ ⟨f0, f3, f4⟩ (fun hHeld => ?_)
  clear hK K
  refine cnH 6 fun K hK => ?_
  go_simp
  ((with_reducible refine (Contains_b _ _ p.cells _ _ _ _ HT4.out HPc.out HIO.out).mono ?_); rintro e w' ⟨rfl, rfl⟩; clear HIO)
  refine hK.out _ _ ⟨f0, f3, f4⟩ (fun hHeld => ?_)
  clear hK K
  refine tkH 7 ?_
  refine tkH 8 ?_
  refine tkH 9 ?_
  refine cnH 10 fun K hK => ?_
  go_simp
  ((with_reducible refine (snd1_any _ _ _).mono ?_); rintro e w2 ⟨v2, rfl, hio, hb2⟩; have HIO := Lib.hid hio; (first | (have hb3 := below_undrew hb2) | (have hb3 := hb2)); replace f0 := (hb3.cell (p := ⟨w.heap.size + 1, 0, none⟩) hz).trans f0; replace f3 := (hb3.cell (p := ⟨w.heap.size + 1, 3, none⟩) hz).trans f3; replace f4 := (hb3.cell (p := ⟨w.heap.size + 1, 4, none⟩) hz).trans f4; replace HB := Lib.hid (below_trans HB.out hb3 HB.out.size); replace HPc := Lib.hid (HPc.out.below hb3 (Nat.le_refl _)); replace HPh := Lib.hid (HPh.out.below hb3 (Nat.le_refl _)); replace hz := Nat.lt_of_lt_of_le hz hb3.size; clear hio hb2 hb3)
  refine hK.out _ _ ⟨f0, f3, f4⟩ (fun hHeld => ?_)
  clear hK K
  refine cnH 11 fun K hK => ?_
  go_simp
  ((with_reducible refine (Contains_b _ _ (p.h0 ++ p.h1) _ _ _ _ HT5.out HPh.out HIO.out).mono ?_); rintro e w' ⟨rfl, rfl⟩; clear HIO)
  refine hK.out _ _ ⟨f0, f3, f4⟩ (fun hHeld => ?_)
  clear hK K
  refine tkH 12 ?_
  refine tkH 13 ?_
  refine skH 14 ?_
  refine skH 15 ?_
  refine skH 16 ?_
  refine skH 17 ?_
  refine skH 18 ?_
  refine skH 19 ?_
  refine skH 20 ?_
  refine skH 21 ?_
  refine tkH 22 ?_
  refine tkH 23 ?_
  refine skH 24 ?_
  refine skH 25 ?_
  refine skH 26 ?_
  refine tkH 27 ?_
  refine tkH 28 ?_
  refine skH 29 ?_
  refine skH 30 ?_
  refine skH 31 ?_
  refine tkH 32 ?_
  refine dnH ?_
  refine NoPanic.normal ?_
  go_wp2_with fail
  go_ret
  exact ⟨by rw [HE.out]; rfl, HB.out⟩
 have HT5 := Lib.hid t5
 clear t5
 cases t6 : (p.turn == 0)
 rotate_left
 ·have HT6 := Lib.hid t6
  have t6' : (p.turn != 0) = false := by simp [bne, t6]
  clear t6
  by_cases t8 : p.quiet < 0
  ·have t8' : decide (p.quiet < 0) = true := by simpa using t8
   have HE : Hid (soundErr R p = 4) := Lib.hid (by rw [HC2.out, if_pos (.inr (.inr (.inr (.inl t8))))])
   go_wp2_with fail
   refine wp_region_noPanic ?_
   refine wp_region_held_drew (S := (fun w' => w'.cell? ⟨w.heap.size + 1, 0, none⟩ = some (.slice ac p.cells.length cc) ∧ w'.cell? ⟨w.heap.size + 1, 3, none⟩ = some (.int .i64 p.turn) ∧ w'.cell? ⟨w.heap.size + 1, 4, none⟩ = some (.int .i64 p.quiet))) (by kernel_rfl) ⟨f0, f3, f4⟩ (fun hHeld => ?_)
   refine tkH 0 ?_
   refine tkH 2 ?_
   refine tkH 3 ?_
   refine tkH 1 ?_
   refine tkH 4 ?_
   refine cnH 5 fun K hK => ?_
   go_simp
   ((with_reducible refine (snd1_any _ _ _).mono ?_); rintro e w2 ⟨v2, rfl, hio, hb2⟩; have HIO := Lib.hid hio; (first | (have hb3 := below_undrew hb2) | (have hb3 := hb2)); replace f0 := (hb3.cell (p := ⟨w.heap.size + 1, 0, none⟩) hz).trans f0; replace f3 := (hb3.cell (p := ⟨w.heap.size + 1, 3, none⟩) hz).trans f3; replace f4 := (hb3.cell (p := ⟨w.heap.size + 1, 4, none⟩) hz).trans f4; replace HB := Lib.hid (below_trans HB.out hb3 HB.out.size); replace HPc := Lib.hid (HPc.out.below hb3 (Nat.le_refl _)); replace HPh := Lib.hid (HPh.out.below hb3 (Nat.le_refl _)); replace hz := Nat.lt_of_lt_of_le hz hb3.size; clear hio hb2 hb3)
   refine hK.out _ _ ⟨f0, f3, f4⟩ (fun hHeld => ?_)
   clear hK K
   refine cnH 6 fun K hK => ?_
   go_simp
   ((with_reducible refine (Contains_b _ _ p.cells _ _ _ _ HT4.out HPc.out HIO.out).mono ?_); rintro e w' ⟨rfl, rfl⟩; clear HIO)
   refine hK.out _ _ ⟨f0, f3, f4⟩ (fun hHeld => ?_)
   clear hK K
   refine tkH 7 ?_
   refine tkH 8 ?_
   refine tkH 9 ?_
   refine cnH 10 fun K hK => ?_
   go_simp
   ((with_reducible refine (snd1_any _ _ _).mono ?_); rintro e w2 ⟨v2, rfl, hio, hb2⟩; have HIO := Lib.hid hio; (first | (have hb3 := below_undrew hb2) | (have hb3 := hb2)); replace f0 := (hb3.cell (p := ⟨w.heap.size + 1, 0, none⟩) hz).trans f0; replace f3 := (hb3.cell (p := ⟨w.heap.size + 1, 3, none⟩) hz).trans f3; replace f4 := (hb3.cell (p := ⟨w.heap.size + 1, 4, none⟩) hz).trans f4; replace HB := Lib.hid (below_trans HB.out hb3 HB.out.size); replace HPc := Lib.hid (HPc.out.below hb3 (Nat.le_refl _)); replace HPh := Lib.hid (HPh.out.below hb3 (Nat.le_refl _)); replace hz := Nat.lt_of_lt_of_le hz hb3.size; clear hio hb2 hb3)
   refine hK.out _ _ ⟨f0, f3, f4⟩ (fun hHeld => ?_)
   clear hK K
   refine cnH 11 fun K hK => ?_
   go_simp
   ((with_reducible refine (Contains_b _ _ (p.h0 ++ p.h1) _ _ _ _ HT5.out HPh.out HIO.out).mono ?_); rintro e w' ⟨rfl, rfl⟩; clear HIO)
   refine hK.out _ _ ⟨f0, f3, f4⟩ (fun hHeld => ?_)
   clear hK K
   refine tkH 12 ?_
   refine tkH 13 ?_
   refine tkH 14 ?_
   refine tkH 15 ?_
   refine tkH 16 ?_
   refine tkH 17 ?_
   refine skH 18 ?_
   refine skH 19 ?_
   refine skH 20 ?_
   refine tkH 21 ?_
   refine tkH 22 ?_
   refine tkH 23 ?_
   refine tkH 24 ?_
   refine tkH 25 ?_
   refine tkH 26 ?_
   refine tkH 27 ?_
   refine tkH 28 ?_
   refine skH 29 ?_
   refine skH 30 ?_
   refine skH 31 ?_
   refine tkH 32 ?_
   refine dnH ?_
   refine NoPanic.normal ?_
   go_wp2_with fail
   go_ret
   exact ⟨by rw [HE.out]; rfl, HB.out⟩
  have t8' : decide (p.quiet < 0) = false := by simpa using t8
  by_cases t9 : 200 < p.quiet
  ·have t9' : decide (200 < p.quiet) = true := by simpa using t9
   have HE : Hid (soundErr R p = 4) := Lib.hid (by rw [HC2.out, if_pos (.inr (.inr (.inr (.inr t9))))])
   go_wp2_with fail
   refine wp_region_noPanic ?_
   refine wp_region_held_drew (S := (fun w' => w'.cell? ⟨w.heap.size + 1, 0, none⟩ = some (.slice ac p.cells.length cc) ∧ w'.cell? ⟨w.heap.size + 1, 3, none⟩ = some (.int .i64 p.turn) ∧ w'.cell? ⟨w.heap.size + 1, 4, none⟩ = some (.int .i64 p.quiet))) (by kernel_rfl) ⟨f0, f3, f4⟩ (fun hHeld => ?_)
   refine tkH 0 ?_
   refine tkH 2 ?_
   refine tkH 3 ?_
   refine tkH 1 ?_
   refine tkH 4 ?_
   refine cnH 5 fun K hK => ?_
   go_simp
   ((with_reducible refine (snd1_any _ _ _).mono ?_); rintro e w2 ⟨v2, rfl, hio, hb2⟩; have HIO := Lib.hid hio; (first | (have hb3 := below_undrew hb2) | (have hb3 := hb2)); replace f0 := (hb3.cell (p := ⟨w.heap.size + 1, 0, none⟩) hz).trans f0; replace f3 := (hb3.cell (p := ⟨w.heap.size + 1, 3, none⟩) hz).trans f3; replace f4 := (hb3.cell (p := ⟨w.heap.size + 1, 4, none⟩) hz).trans f4; replace HB := Lib.hid (below_trans HB.out hb3 HB.out.size); replace HPc := Lib.hid (HPc.out.below hb3 (Nat.le_refl _)); replace HPh := Lib.hid (HPh.out.below hb3 (Nat.le_refl _)); replace hz := Nat.lt_of_lt_of_le hz hb3.size; clear hio hb2 hb3)
   refine hK.out _ _ ⟨f0, f3, f4⟩ (fun hHeld => ?_)
   clear hK K
   refine cnH 6 fun K hK => ?_
   go_simp
   ((with_reducible refine (Contains_b _ _ p.cells _ _ _ _ HT4.out HPc.out HIO.out).mono ?_); rintro e w' ⟨rfl, rfl⟩; clear HIO)
   refine hK.out _ _ ⟨f0, f3, f4⟩ (fun hHeld => ?_)
   clear hK K
   refine tkH 7 ?_
   refine tkH 8 ?_
   refine tkH 9 ?_
   refine cnH 10 fun K hK => ?_
   go_simp
   ((with_reducible refine (snd1_any _ _ _).mono ?_); rintro e w2 ⟨v2, rfl, hio, hb2⟩; have HIO := Lib.hid hio; (first | (have hb3 := below_undrew hb2) | (have hb3 := hb2)); replace f0 := (hb3.cell (p := ⟨w.heap.size + 1, 0, none⟩) hz).trans f0; replace f3 := (hb3.cell (p := ⟨w.heap.size + 1, 3, none⟩) hz).trans f3; replace f4 := (hb3.cell (p := ⟨w.heap.size + 1, 4, none⟩) hz).trans f4; replace HB := Lib.hid (below_trans HB.out hb3 HB.out.size); replace HPc := Lib.hid (HPc.out.below hb3 (Nat.le_refl _)); replace HPh := Lib.hid (HPh.out.below hb3 (Nat.le_refl _)); replace hz := Nat.lt_of_lt_of_le hz hb3.size; clear hio hb2 hb3)
   refine hK.out _ _ ⟨f0, f3, f4⟩ (fun hHeld => ?_)
   clear hK K
   refine cnH 11 fun K hK => ?_
   go_simp
   ((with_reducible refine (Contains_b _ _ (p.h0 ++ p.h1) _ _ _ _ HT5.out HPh.out HIO.out).mono ?_); rintro e w' ⟨rfl, rfl⟩; clear HIO)
   refine hK.out _ _ ⟨f0, f3, f4⟩ (fun hHeld => ?_)
   clear hK K
   refine tkH 12 ?_
   refine tkH 13 ?_
   refine tkH 14 ?_
   refine tkH 15 ?_
   refine tkH 16 ?_
   refine tkH 17 ?_
   refine skH 18 ?_
   refine skH 19 ?_
   refine skH 20 ?_
   refine tkH 21 ?_
   refine tkH 22 ?_
   refine tkH 23 ?_
   refine tkH 24 ?_
   refine tkH 25 ?_
   refine tkH 26 ?_
   refine tkH 27 ?_
   refine tkH 28 ?_
   refine tkH 29 ?_
   refine tkH 30 ?_
   refine tkH 31 ?_
   refine tkH 32 ?_
   refine dnH ?_
   refine NoPanic.normal ?_
   go_wp2_with fail
   go_ret
   exact ⟨by rw [HE.out]; rfl, HB.out⟩
  have t9' : decide (200 < p.quiet) = false := by simpa using t9
  have HE : Hid (soundErr R p = 0) := Lib.hid (by rw [HC2.out, if_neg (by simp only [HT4.out, HT5.out, Bool.false_eq_true, false_or]; rintro (h | h | h) <;> first | omega | (have := HT6.out; simp at this; omega))])
  go_wp2_with fail
  refine wp_region_noPanic ?_
  refine wp_region_held_drew (S := (fun w' => w'.cell? ⟨w.heap.size + 1, 0, none⟩ = some (.slice ac p.cells.length cc) ∧ w'.cell? ⟨w.heap.size + 1, 3, none⟩ = some (.int .i64 p.turn) ∧ w'.cell? ⟨w.heap.size + 1, 4, none⟩ = some (.int .i64 p.quiet))) (by kernel_rfl) ⟨f0, f3, f4⟩ (fun hHeld => ?_)
  refine tkH 0 ?_
  refine tkH 2 ?_
  refine tkH 3 ?_
  refine tkH 1 ?_
  refine tkH 4 ?_
  refine cnH 5 fun K hK => ?_
  go_simp
  ((with_reducible refine (snd1_any _ _ _).mono ?_); rintro e w2 ⟨v2, rfl, hio, hb2⟩; have HIO := Lib.hid hio; (first | (have hb3 := below_undrew hb2) | (have hb3 := hb2)); replace f0 := (hb3.cell (p := ⟨w.heap.size + 1, 0, none⟩) hz).trans f0; replace f3 := (hb3.cell (p := ⟨w.heap.size + 1, 3, none⟩) hz).trans f3; replace f4 := (hb3.cell (p := ⟨w.heap.size + 1, 4, none⟩) hz).trans f4; replace HB := Lib.hid (below_trans HB.out hb3 HB.out.size); replace HPc := Lib.hid (HPc.out.below hb3 (Nat.le_refl _)); replace HPh := Lib.hid (HPh.out.below hb3 (Nat.le_refl _)); replace hz := Nat.lt_of_lt_of_le hz hb3.size; clear hio hb2 hb3)
  refine hK.out _ _ ⟨f0, f3, f4⟩ (fun hHeld => ?_)
  clear hK K
  refine cnH 6 fun K hK => ?_
  go_simp
  ((with_reducible refine (Contains_b _ _ p.cells _ _ _ _ HT4.out HPc.out HIO.out).mono ?_); rintro e w' ⟨rfl, rfl⟩; clear HIO)
  refine hK.out _ _ ⟨f0, f3, f4⟩ (fun hHeld => ?_)
  clear hK K
  refine tkH 7 ?_
  refine tkH 8 ?_
  refine tkH 9 ?_
  refine cnH 10 fun K hK => ?_
  go_simp
  ((with_reducible refine (snd1_any _ _ _).mono ?_); rintro e w2 ⟨v2, rfl, hio, hb2⟩; have HIO := Lib.hid hio; (first | (have hb3 := below_undrew hb2) | (have hb3 := hb2)); replace f0 := (hb3.cell (p := ⟨w.heap.size + 1, 0, none⟩) hz).trans f0; replace f3 := (hb3.cell (p := ⟨w.heap.size + 1, 3, none⟩) hz).trans f3; replace f4 := (hb3.cell (p := ⟨w.heap.size + 1, 4, none⟩) hz).trans f4; replace HB := Lib.hid (below_trans HB.out hb3 HB.out.size); replace HPc := Lib.hid (HPc.out.below hb3 (Nat.le_refl _)); replace HPh := Lib.hid (HPh.out.below hb3 (Nat.le_refl _)); replace hz := Nat.lt_of_lt_of_le hz hb3.size; clear hio hb2 hb3)
  refine hK.out _ _ ⟨f0, f3, f4⟩ (fun hHeld => ?_)
  clear hK K
  refine cnH 11 fun K hK => ?_
  go_simp
  ((with_reducible refine (Contains_b _ _ (p.h0 ++ p.h1) _ _ _ _ HT5.out HPh.out HIO.out).mono ?_); rintro e w' ⟨rfl, rfl⟩; clear HIO)
  refine hK.out _ _ ⟨f0, f3, f4⟩ (fun hHeld => ?_)
  clear hK K
  refine tkH 12 ?_
  refine tkH 13 ?_
  refine tkH 14 ?_
  refine tkH 15 ?_
  refine tkH 16 ?_
  refine tkH 17 ?_
  refine skH 18 ?_
  refine skH 19 ?_
  refine skH 20 ?_
  refine tkH 21 ?_
  refine tkH 22 ?_
  refine tkH 23 ?_
  refine tkH 24 ?_
  refine tkH 25 ?_
  refine tkH 26 ?_
  refine tkH 27 ?_
  refine tkH 28 ?_
  refine tkH 29 ?_
  refine tkH 30 ?_
  refine tkH 31 ?_
  refine tkH 32 ?_
  refine dnH ?_
  refine NoPanic.normal ?_
  go_wp2_with fail
  go_ret
  exact ⟨by rw [HE.out]; rfl, HB.out⟩
 have HT60 := Lib.hid t6
 have t6' : (p.turn != 0) = true := by simp [bne, t6]
 clear t6
 cases t7 : (p.turn == 1)
 rotate_left
 ·have HT6 := Lib.hid t7
  have t7' : (p.turn != 1) = false := by simp [bne, t7]
  clear t7
  by_cases t8 : p.quiet < 0
  ·have t8' : decide (p.quiet < 0) = true := by simpa using t8
   have HE : Hid (soundErr R p = 4) := Lib.hid (by rw [HC2.out, if_pos (.inr (.inr (.inr (.inl t8))))])
   go_wp2_with fail
   refine wp_region_noPanic ?_
   refine wp_region_held_drew (S := (fun w' => w'.cell? ⟨w.heap.size + 1, 0, none⟩ = some (.slice ac p.cells.length cc) ∧ w'.cell? ⟨w.heap.size + 1, 3, none⟩ = some (.int .i64 p.turn) ∧ w'.cell? ⟨w.heap.size + 1, 4, none⟩ = some (.int .i64 p.quiet))) (by kernel_rfl) ⟨f0, f3, f4⟩ (fun hHeld => ?_)
   refine tkH 0 ?_
   refine tkH 2 ?_
   refine tkH 3 ?_
   refine tkH 1 ?_
   refine tkH 4 ?_
   refine cnH 5 fun K hK => ?_
   go_simp
   ((with_reducible refine (snd1_any _ _ _).mono ?_); rintro e w2 ⟨v2, rfl, hio, hb2⟩; have HIO := Lib.hid hio; (first | (have hb3 := below_undrew hb2) | (have hb3 := hb2)); replace f0 := (hb3.cell (p := ⟨w.heap.size + 1, 0, none⟩) hz).trans f0; replace f3 := (hb3.cell (p := ⟨w.heap.size + 1, 3, none⟩) hz).trans f3; replace f4 := (hb3.cell (p := ⟨w.heap.size + 1, 4, none⟩) hz).trans f4; replace HB := Lib.hid (below_trans HB.out hb3 HB.out.size); replace HPc := Lib.hid (HPc.out.below hb3 (Nat.le_refl _)); replace HPh := Lib.hid (HPh.out.below hb3 (Nat.le_refl _)); replace hz := Nat.lt_of_lt_of_le hz hb3.size; clear hio hb2 hb3)
   refine hK.out _ _ ⟨f0, f3, f4⟩ (fun hHeld => ?_)
   clear hK K
   refine cnH 6 fun K hK => ?_
   go_simp
   ((with_reducible refine (Contains_b _ _ p.cells _ _ _ _ HT4.out HPc.out HIO.out).mono ?_); rintro e w' ⟨rfl, rfl⟩; clear HIO)
   refine hK.out _ _ ⟨f0, f3, f4⟩ (fun hHeld => ?_)
   clear hK K
   refine tkH 7 ?_
   refine tkH 8 ?_
   refine tkH 9 ?_
   refine cnH 10 fun K hK => ?_
   go_simp
   ((with_reducible refine (snd1_any _ _ _).mono ?_); rintro e w2 ⟨v2, rfl, hio, hb2⟩; have HIO := Lib.hid hio; (first | (have hb3 := below_undrew hb2) | (have hb3 := hb2)); replace f0 := (hb3.cell (p := ⟨w.heap.size + 1, 0, none⟩) hz).trans f0; replace f3 := (hb3.cell (p := ⟨w.heap.size + 1, 3, none⟩) hz).trans f3; replace f4 := (hb3.cell (p := ⟨w.heap.size + 1, 4, none⟩) hz).trans f4; replace HB := Lib.hid (below_trans HB.out hb3 HB.out.size); replace HPc := Lib.hid (HPc.out.below hb3 (Nat.le_refl _)); replace HPh := Lib.hid (HPh.out.below hb3 (Nat.le_refl _)); replace hz := Nat.lt_of_lt_of_le hz hb3.size; clear hio hb2 hb3)
   refine hK.out _ _ ⟨f0, f3, f4⟩ (fun hHeld => ?_)
   clear hK K
   refine cnH 11 fun K hK => ?_
   go_simp
   ((with_reducible refine (Contains_b _ _ (p.h0 ++ p.h1) _ _ _ _ HT5.out HPh.out HIO.out).mono ?_); rintro e w' ⟨rfl, rfl⟩; clear HIO)
   refine hK.out _ _ ⟨f0, f3, f4⟩ (fun hHeld => ?_)
   clear hK K
   refine tkH 12 ?_
   refine tkH 13 ?_
   refine tkH 14 ?_
   refine tkH 15 ?_
   refine tkH 16 ?_
   refine tkH 17 ?_
   refine tkH 18 ?_
   refine tkH 19 ?_
   refine tkH 20 ?_
   refine tkH 21 ?_
   refine tkH 22 ?_
   refine tkH 23 ?_
   refine tkH 24 ?_
   refine tkH 25 ?_
   refine tkH 26 ?_
   refine tkH 27 ?_
   refine tkH 28 ?_
   refine skH 29 ?_
   refine skH 30 ?_
   refine skH 31 ?_
   refine tkH 32 ?_
   refine dnH ?_
   refine NoPanic.normal ?_
   go_wp2_with fail
   go_ret
   exact ⟨by rw [HE.out]; rfl, HB.out⟩
  have t8' : decide (p.quiet < 0) = false := by simpa using t8
  by_cases t9 : 200 < p.quiet
  ·have t9' : decide (200 < p.quiet) = true := by simpa using t9
   have HE : Hid (soundErr R p = 4) := Lib.hid (by rw [HC2.out, if_pos (.inr (.inr (.inr (.inr t9))))])
   go_wp2_with fail
   refine wp_region_noPanic ?_
   refine wp_region_held_drew (S := (fun w' => w'.cell? ⟨w.heap.size + 1, 0, none⟩ = some (.slice ac p.cells.length cc) ∧ w'.cell? ⟨w.heap.size + 1, 3, none⟩ = some (.int .i64 p.turn) ∧ w'.cell? ⟨w.heap.size + 1, 4, none⟩ = some (.int .i64 p.quiet))) (by kernel_rfl) ⟨f0, f3, f4⟩ (fun hHeld => ?_)
   refine tkH 0 ?_
   refine tkH 2 ?_
   refine tkH 3 ?_
   refine tkH 1 ?_
   refine tkH 4 ?_
   refine cnH 5 fun K hK => ?_
   go_simp
   ((with_reducible refine (snd1_any _ _ _).mono ?_); rintro e w2 ⟨v2, rfl, hio, hb2⟩; have HIO := Lib.hid hio; (first | (have hb3 := below_undrew hb2) | (have hb3 := hb2)); replace f0 := (hb3.cell (p := ⟨w.heap.size + 1, 0, none⟩) hz).trans f0; replace f3 := (hb3.cell (p := ⟨w.heap.size + 1, 3, none⟩) hz).trans f3; replace f4 := (hb3.cell (p := ⟨w.heap.size + 1, 4, none⟩) hz).trans f4; replace HB := Lib.hid (below_trans HB.out hb3 HB.out.size); replace HPc := Lib.hid (HPc.out.below hb3 (Nat.le_refl _)); replace HPh := Lib.hid (HPh.out.below hb3 (Nat.le_refl _)); replace hz := Nat.lt_of_lt_of_le hz hb3.size; clear hio hb2 hb3)
   refine hK.out _ _ ⟨f0, f3, f4⟩ (fun hHeld => ?_)
   clear hK K
   refine cnH 6 fun K hK => ?_
   go_simp
   ((with_reducible refine (Contains_b _ _ p.cells _ _ _ _ HT4.out HPc.out HIO.out).mono ?_); rintro e w' ⟨rfl, rfl⟩; clear HIO)
   refine hK.out _ _ ⟨f0, f3, f4⟩ (fun hHeld => ?_)
   clear hK K
   refine tkH 7 ?_
   refine tkH 8 ?_
   refine tkH 9 ?_
   refine cnH 10 fun K hK => ?_
   go_simp
   ((with_reducible refine (snd1_any _ _ _).mono ?_); rintro e w2 ⟨v2, rfl, hio, hb2⟩; have HIO := Lib.hid hio; (first | (have hb3 := below_undrew hb2) | (have hb3 := hb2)); replace f0 := (hb3.cell (p := ⟨w.heap.size + 1, 0, none⟩) hz).trans f0; replace f3 := (hb3.cell (p := ⟨w.heap.size + 1, 3, none⟩) hz).trans f3; replace f4 := (hb3.cell (p := ⟨w.heap.size + 1, 4, none⟩) hz).trans f4; replace HB := Lib.hid (below_trans HB.out hb3 HB.out.size); replace HPc := Lib.hid (HPc.out.below hb3 (Nat.le_refl _)); replace HPh := Lib.hid (HPh.out.below hb3 (Nat.le_refl _)); replace hz := Nat.lt_of_lt_of_le hz hb3.size; clear hio hb2 hb3)
   refine hK.out _ _ ⟨f0, f3, f4⟩ (fun hHeld => ?_)
   clear hK K
   refine cnH 11 fun K hK => ?_
   go_simp
   ((with_reducible refine (Contains_b _ _ (p.h0 ++ p.h1) _ _ _ _ HT5.out HPh.out HIO.out).mono ?_); rintro e w' ⟨rfl, rfl⟩; clear HIO)
   refine hK.out _ _ ⟨f0, f3, f4⟩ (fun hHeld => ?_)
   clear hK K
   refine tkH 12 ?_
   refine tkH 13 ?_
   refine tkH 14 ?_
   refine tkH 15 ?_
   refine tkH 16 ?_
   refine tkH 17 ?_
   refine tkH 18 ?_
   refine tkH 19 ?_
   refine tkH 20 ?_
   refine tkH 21 ?_
   refine tkH 22 ?_
   refine tkH 23 ?_
   refine tkH 24 ?_
   refine tkH 25 ?_
   refine tkH 26 ?_
   refine tkH 27 ?_
   refine tkH 28 ?_
   refine tkH 29 ?_
   refine tkH 30 ?_
   refine tkH 31 ?_
   refine tkH 32 ?_
   refine dnH ?_
   refine NoPanic.normal ?_
   go_wp2_with fail
   go_ret
   exact ⟨by rw [HE.out]; rfl, HB.out⟩
  have t9' : decide (200 < p.quiet) = false := by simpa using t9
  have HE : Hid (soundErr R p = 0) := Lib.hid (by rw [HC2.out, if_neg (by simp only [HT4.out, HT5.out, Bool.false_eq_true, false_or]; rintro (h | h | h) <;> first | omega | (have := HT6.out; simp at this; omega))])
  go_wp2_with fail
  refine wp_region_noPanic ?_
  refine wp_region_held_drew (S := (fun w' => w'.cell? ⟨w.heap.size + 1, 0, none⟩ = some (.slice ac p.cells.length cc) ∧ w'.cell? ⟨w.heap.size + 1, 3, none⟩ = some (.int .i64 p.turn) ∧ w'.cell? ⟨w.heap.size + 1, 4, none⟩ = some (.int .i64 p.quiet))) (by kernel_rfl) ⟨f0, f3, f4⟩ (fun hHeld => ?_)
  refine tkH 0 ?_
  refine tkH 2 ?_
  refine tkH 3 ?_
  refine tkH 1 ?_
  refine tkH 4 ?_
  refine cnH 5 fun K hK => ?_
  go_simp
  ((with_reducible refine (snd1_any _ _ _).mono ?_); rintro e w2 ⟨v2, rfl, hio, hb2⟩; have HIO := Lib.hid hio; (first | (have hb3 := below_undrew hb2) | (have hb3 := hb2)); replace f0 := (hb3.cell (p := ⟨w.heap.size + 1, 0, none⟩) hz).trans f0; replace f3 := (hb3.cell (p := ⟨w.heap.size + 1, 3, none⟩) hz).trans f3; replace f4 := (hb3.cell (p := ⟨w.heap.size + 1, 4, none⟩) hz).trans f4; replace HB := Lib.hid (below_trans HB.out hb3 HB.out.size); replace HPc := Lib.hid (HPc.out.below hb3 (Nat.le_refl _)); replace HPh := Lib.hid (HPh.out.below hb3 (Nat.le_refl _)); replace hz := Nat.lt_of_lt_of_le hz hb3.size; clear hio hb2 hb3)
  refine hK.out _ _ ⟨f0, f3, f4⟩ (fun hHeld => ?_)
  clear hK K
  refine cnH 6 fun K hK => ?_
  go_simp
  ((with_reducible refine (Contains_b _ _ p.cells _ _ _ _ HT4.out HPc.out HIO.out).mono ?_); rintro e w' ⟨rfl, rfl⟩; clear HIO)
  refine hK.out _ _ ⟨f0, f3, f4⟩ (fun hHeld => ?_)
  clear hK K
  refine tkH 7 ?_
  refine tkH 8 ?_
  refine tkH 9 ?_
  refine cnH 10 fun K hK => ?_
  go_simp
  ((with_reducible refine (snd1_any _ _ _).mono ?_); rintro e w2 ⟨v2, rfl, hio, hb2⟩; have HIO := Lib.hid hio; (first | (have hb3 := below_undrew hb2) | (have hb3 := hb2)); replace f0 := (hb3.cell (p := ⟨w.heap.size + 1, 0, none⟩) hz).trans f0; replace f3 := (hb3.cell (p := ⟨w.heap.size + 1, 3, none⟩) hz).trans f3; replace f4 := (hb3.cell (p := ⟨w.heap.size + 1, 4, none⟩) hz).trans f4; replace HB := Lib.hid (below_trans HB.out hb3 HB.out.size); replace HPc := Lib.hid (HPc.out.below hb3 (Nat.le_refl _)); replace HPh := Lib.hid (HPh.out.below hb3 (Nat.le_refl _)); replace hz := Nat.lt_of_lt_of_le hz hb3.size; clear hio hb2 hb3)
  refine hK.out _ _ ⟨f0, f3, f4⟩ (fun hHeld => ?_)
  clear hK K
  refine cnH 11 fun K hK => ?_
  go_simp
  ((with_reducible refine (Contains_b _ _ (p.h0 ++ p.h1) _ _ _ _ HT5.out HPh.out HIO.out).mono ?_); rintro e w' ⟨rfl, rfl⟩; clear HIO)
  refine hK.out _ _ ⟨f0, f3, f4⟩ (fun hHeld => ?_)
  clear hK K
  refine tkH 12 ?_
  refine tkH 13 ?_
  refine tkH 14 ?_
  refine tkH 15 ?_
  refine tkH 16 ?_
  refine tkH 17 ?_
  refine tkH 18 ?_
  refine tkH 19 ?_
  refine tkH 20 ?_
  refine tkH 21 ?_
  refine tkH 22 ?_
  refine tkH 23 ?_
  refine tkH 24 ?_
  refine tkH 25 ?_
  refine tkH 26 ?_
  refine tkH 27 ?_
  refine tkH 28 ?_
  refine tkH 29 ?_
  refine tkH 30 ?_
  refine tkH 31 ?_
  refine tkH 32 ?_
  refine dnH ?_
  refine NoPanic.normal ?_
  go_wp2_with fail
  go_ret
  exact ⟨by rw [HE.out]; rfl, HB.out⟩
 have HT7 := Lib.hid t7
 have t7' : (p.turn != 1) = true := by simp [bne, t7]
 clear t7
 have HE : Hid (soundErr R p = 4) := Lib.hid (by rw [HC2.out, if_pos (.inr (.inr (.inl ⟨by simpa using HT60.out, by simpa using HT7.out⟩)))])
 go_wp2_with fail
 refine wp_region_noPanic ?_
 refine wp_region_held_drew (S := (fun w' => w'.cell? ⟨w.heap.size + 1, 0, none⟩ = some (.slice ac p.cells.length cc) ∧ w'.cell? ⟨w.heap.size + 1, 3, none⟩ = some (.int .i64 p.turn) ∧ w'.cell? ⟨w.heap.size + 1, 4, none⟩ = some (.int .i64 p.quiet))) (by kernel_rfl) ⟨f0, f3, f4⟩ (fun hHeld => ?_)
 refine tkH 0 ?_
 refine tkH 2 ?_
 refine tkH 3 ?_
 refine tkH 1 ?_
 refine tkH 4 ?_
 refine cnH 5 fun K hK => ?_
 go_simp
 ((with_reducible refine (snd1_any _ _ _).mono ?_); rintro e w2 ⟨v2, rfl, hio, hb2⟩; have HIO := Lib.hid hio; (first | (have hb3 := below_undrew hb2) | (have hb3 := hb2)); replace f0 := (hb3.cell (p := ⟨w.heap.size + 1, 0, none⟩) hz).trans f0; replace f3 := (hb3.cell (p := ⟨w.heap.size + 1, 3, none⟩) hz).trans f3; replace f4 := (hb3.cell (p := ⟨w.heap.size + 1, 4, none⟩) hz).trans f4; replace HB := Lib.hid (below_trans HB.out hb3 HB.out.size); replace HPc := Lib.hid (HPc.out.below hb3 (Nat.le_refl _)); replace HPh := Lib.hid (HPh.out.below hb3 (Nat.le_refl _)); replace hz := Nat.lt_of_lt_of_le hz hb3.size; clear hio hb2 hb3)
 refine hK.out _ _ ⟨f0, f3, f4⟩ (fun hHeld => ?_)
 clear hK K
 refine cnH 6 fun K hK => ?_
 go_simp
 ((with_reducible refine (Contains_b _ _ p.cells _ _ _ _ HT4.out HPc.out HIO.out).mono ?_); rintro e w' ⟨rfl, rfl⟩; clear HIO)
 refine hK.out _ _ ⟨f0, f3, f4⟩ (fun hHeld => ?_)
 clear hK K
 refine tkH 7 ?_
 refine tkH 8 ?_
 refine tkH 9 ?_
 refine cnH 10 fun K hK => ?_
 go_simp
 ((with_reducible refine (snd1_any _ _ _).mono ?_); rintro e w2 ⟨v2, rfl, hio, hb2⟩; have HIO := Lib.hid hio; (first | (have hb3 := below_undrew hb2) | (have hb3 := hb2)); replace f0 := (hb3.cell (p := ⟨w.heap.size + 1, 0, none⟩) hz).trans f0; replace f3 := (hb3.cell (p := ⟨w.heap.size + 1, 3, none⟩) hz).trans f3; replace f4 := (hb3.cell (p := ⟨w.heap.size + 1, 4, none⟩) hz).trans f4; replace HB := Lib.hid (below_trans HB.out hb3 HB.out.size); replace HPc := Lib.hid (HPc.out.below hb3 (Nat.le_refl _)); replace HPh := Lib.hid (HPh.out.below hb3 (Nat.le_refl _)); replace hz := Nat.lt_of_lt_of_le hz hb3.size; clear hio hb2 hb3)
 refine hK.out _ _ ⟨f0, f3, f4⟩ (fun hHeld => ?_)
 clear hK K
 refine cnH 11 fun K hK => ?_
 go_simp
 ((with_reducible refine (Contains_b _ _ (p.h0 ++ p.h1) _ _ _ _ HT5.out HPh.out HIO.out).mono ?_); rintro e w' ⟨rfl, rfl⟩; clear HIO)
 refine hK.out _ _ ⟨f0, f3, f4⟩ (fun hHeld => ?_)
 clear hK K
 refine tkH 12 ?_
 refine tkH 13 ?_
 refine tkH 14 ?_
 refine tkH 15 ?_
 refine tkH 16 ?_
 refine tkH 17 ?_
 refine tkH 18 ?_
 refine tkH 19 ?_
 refine tkH 20 ?_
 refine tkH 21 ?_
 refine tkH 22 ?_
 refine tkH 23 ?_
 refine skH 24 ?_
 refine skH 25 ?_
 refine skH 26 ?_
 refine tkH 27 ?_
 refine tkH 28 ?_
 refine skH 29 ?_
 refine skH 30 ?_
 refine skH 31 ?_
 refine tkH 32 ?_
 refine dnH ?_
 refine NoPanic.normal ?_
 go_wp2_with fail
 go_ret
 exact ⟨by rw [HE.out]; rfl, HB.out⟩
end Go.Proofs.YthklhndcdijneaaGreatDoor
