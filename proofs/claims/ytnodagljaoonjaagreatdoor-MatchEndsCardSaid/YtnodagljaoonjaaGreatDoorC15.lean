/- slices.Index, slices.Contains at []api.Move. -/
import Derived.Test.YtnodagljaoonjaaGreatDoorC11
import Derived.Test.YtnodagljaoonjaaGreatDoorC09
namespace Go.Proofs.YtnodagljaoonjaaGreatDoor
open Go.ChangeShapes Go.WideShapes Go.ChangeAt Go.RowKit
set_option linter.unusedVariables false
theorem rdM_of_own {w : World} {b : Nat} {v : Value} {xs : List MoveZ} (h : w.ownsRow b 38 3 v xs.length (flatM xs)) : RdL moveEl w v xs := by
 refine RdL.of_own (el := moveEl) h fun i hi => ?_
 show ((flatM xs).drop (i * 3)).take 3 = _
 have hf := flatM_at xs i hi
 have e : xs.getD i default = xs[i] := by rw [List.getD_eq_getElem?_getD, List.getElem?_eq_getElem hi]; rfl
 rw [e] at hf
 obtain ⟨f0, f1, f2⟩ := hf
 apply List.ext_getElem?
 intro j
 by_cases hj : j < 3
 ·rw [List.getElem?_take_of_lt hj, List.getElem?_drop]
  have h3 : j = 0 ∨ j = 1 ∨ j = 2 := by omega
  rcases h3 with rfl | rfl | rfl
  ·rw [Nat.add_zero, f0]; rfl
  ·rw [f1]; rfl
  ·rw [f2]; rfl
 ·rw [List.getElem?_take_eq_none (by omega), List.getElem?_eq_none (by simp; omega)]
theorem index_mv (v : Value) (m : MoveZ) (xs : List MoveZ) (w : World) (h : RdL moveEl w v xs) :
  Calls Tryz.prog 97 #[v, .agg #[.int .i64 m.src, .int .i64 m.dst, .int .i64 m.piece]] w fun e w' => e = .returned (.int .i64 (idxL (fun y => decide (m = y)) xs 0)) ∧ Below w.heap.size w w' := by
 obtain ⟨a, c, rfl, h1, h2⟩ := h.form
 unfold maxLen at h2
 have HR := Lib.hid h
 have heq := eqlM
 clear h
 go_enter Tryz.func97, Tryz.ntmps97
 go_upto_region 1 with (fail)
 refine opn1 fun w0 hb0 yb_ hs_ => ?_
 have HB := Lib.hid yb_
 clear hs_ yb_
 have HBx := Lib.hid hb0
 clear hb0
 go_wp2_with fail
 go_loopw [8] (fun i wr => ∃ k : Nat, k ≤ xs.length ∧ i = .int .i64 k ∧ Hid (idxL (fun y => decide (m = y)) xs 0 = idxL (fun y => decide (m = y)) (xs.drop k) k) ∧ Hid (Below w0.heap.size w0 wr)) (fun i _ => xs.length - (intOf i).toNat)
 case atStart => exact ⟨0, Nat.zero_le _, rfl, Lib.hid rfl, Lib.hid (Below.refl _ _)⟩
 case round =>
  obtain ⟨k, hk, rfl, HK, HBr⟩ := hrel
  by_cases hlt : k < xs.length
  ·obtain ⟨g, o, rfl, hg, hcc⟩ := moves_some (HR.out.below (below_trans HB.out HBr.out HB.out.size) (Nat.le_refl _)) (by omega)
   obtain ⟨c0, c1, c2⟩ := hcc k hlt
   have HS := Lib.hid (idxL_step (fun y => decide (m = y)) xs k hlt)
   have HG : Hid (xs[k] = xs.getD k default) := Lib.hid (by rw [List.getD_eq_getElem?_getD, List.getElem?_eq_getElem hlt]; rfl)
   have x0 := (HBx.out.stays HBr.out).cell 0 rfl
   have x1 := (HBx.out.stays HBr.out).cell 1 rfl
   have x2 := (HBx.out.stays HBr.out).cell 2 rfl
   rw [HG.out] at HS
   clear hcc HG
   generalize xs.getD k default = y at *
   by_cases hmy : m = y
   ·subst hmy
    have HE : Hid (idxL (fun y => decide (m = y)) xs 0 = k) := Lib.hid (by rw [HK.out, HS.out, if_pos (by simp)])
    clear HS
    go_wp2_with fail
    go_quiet (fail)
    go_wp2_with fail
    go_ret
    exact ⟨by rw [HE.out]; rfl, below_trans HB.out (below_drewN HBr.out _) HB.out.size⟩
   ·have hd : decide (m = y) = false := by simpa using hmy
    have HE : Hid (idxL (fun y => decide (m = y)) xs 0 = idxL (fun y => decide (m = y)) (xs.drop (k + 1)) ((k + 1 : Nat) : Int)) := Lib.hid (by rw [HK.out, HS.out, if_neg (by simp [hmy])])
    clear HS hmy
    go_wp2_with fail
    go_quiet (fail)
    go_wp2_with fail
    go_roundw
    case rel => exact ⟨k + 1, by omega, by go_num, HE, Lib.hid (below_drewN HBr.out _)⟩
    case measure => simp [intOf]; omega
  ·obtain rfl : k = xs.length := by omega
   have HE : Hid (idxL (fun y => decide (m = y)) xs 0 = -1) := Lib.hid (by rw [HK.out, List.drop_of_length_le (Nat.le_refl _)]; rfl)
   go_wp2_with fail
   go_ret
   exact ⟨by rw [HE.out]; rfl, below_trans HB.out HBr.out HB.out.size⟩
theorem contains_mv (v : Value) (m : MoveZ) (xs : List MoveZ) (w : World) (h : RdL moveEl w v xs) :
  Calls Tryz.prog 65 #[v, .agg #[.int .i64 m.src, .int .i64 m.dst, .int .i64 m.piece]] w fun e w' => e = .returned (.bool (decide (m ∈ xs))) ∧ Below w.heap.size w w' := by
 have HR := Lib.hid h
 have HA : Hid (decide (0 ≤ idxL (fun y => decide (m = y)) xs 0) = decide (m ∈ xs)) := Lib.hid (by
  rw [idxL_any _ _ _ (by omega)]
  rw [Bool.eq_iff_iff]
  simp)
 obtain ⟨a, c, rfl, h1, h2⟩ := h.form
 clear h
 go_enter Tryz.func65, Tryz.ntmps65
 go_wp2_with fail
 refine (index_mv _ m xs _ (HR.out.below ((Below.refl w.heap.size w).alloc (Nat.le_refl _) _) (Nat.le_refl _))).mono ?_
 rintro e w1 ⟨rfl, hb1⟩
 have HB1 := Lib.hid (below_trans ((Below.refl w.heap.size w).alloc (Nat.le_refl _) _) hb1 (by simp))
 clear hb1
 go_wp2_with fail
 go_ret
 exact ⟨by rw [← HA.out]; rfl, HB1.out⟩
end Go.Proofs.YtnodagljaoonjaaGreatDoor
