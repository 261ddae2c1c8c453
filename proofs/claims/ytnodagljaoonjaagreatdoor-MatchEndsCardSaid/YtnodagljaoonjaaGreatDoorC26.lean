/- offer's functions. -/
import Derived.Test.YtnodagljaoonjaaGreatDoorRows
import Derived.Test.YtnodagljaoonjaaGreatDoorC23
import Derived.WalkKit
import Derived.ProofKit
import Derived.OpenShut
import Derived.LoopTactic
import Derived.Outline
import Derived.Lib.Hide
import Derived.Handy
import Derived.BigRegion
import Derived.RegionTactic
import Derived.ChangeAlike
/- The contract of offer.Check. -/
namespace Go.Proofs.YtnodagljaoonjaaGreatDoor.off
open Go.ChangeShapes Go.WideShapes Go.ChangeAt Go.RowKit
set_option linter.unusedVariables false
set_option maxHeartbeats 4000000
theorem ix0 (a b : Value) (w : World) : (Instr.index 42 (.agg #[a, b]) (.int .i64 0)).run Tryz.prog w = .ok a w :=
 run_index_arr (P := Tryz.prog) #[a, b] 0 a w Tryz.underlying42 (by kernel_rfl) (by kernel_rfl) (by omega) (by omega) rfl
theorem ix1 (a b : Value) (w : World) : (Instr.index 42 (.agg #[a, b]) (.int .i64 1)).run Tryz.prog w = .ok b w :=
 run_index_arr (P := Tryz.prog) #[a, b] 1 b w Tryz.underlying42 (by kernel_rfl) (by kernel_rfl) (by omega) (by omega) rfl
attribute [local go_sem] ix0 ix1
/-- what offer.Check accepts. -/
def OkO (b0 b1 l00 l01 l10 l11 : Int) : Prop :=
 (-1 ≤ l00 ∧ l00 ≤ 400 ∧ -1 ≤ l01 ∧ l01 ≤ 400 ∧ -1 ≤ b0 ∧ b0 ≤ 1 ∧ ¬ (b0 = 0 ∧ l00 = -1) ∧ ¬ (b0 = 1 ∧ l01 = -1)) ∧
 (-1 ≤ l10 ∧ l10 ≤ 400 ∧ -1 ≤ l11 ∧ l11 ≤ 400 ∧ -1 ≤ b1 ∧ b1 ≤ 1 ∧ ¬ (b1 = 0 ∧ l10 = -1) ∧ ¬ (b1 = 1 ∧ l11 = -1))
def ChkPost (ok : Prop) (w : World) (e : Ending) (w' : World) : Prop := ∃ c : Int, e = .returned (.int .i64 c) ∧ (c = 0 ↔ ok) ∧ w = w'
theorem Check_any (b0 b1 l00 l01 l10 l11 : Int) (w : World) :
  Calls Tryz.prog 164 #[.agg #[.int .i64 b0, .int .i64 b1, .int .i64 l00, .int .i64 l01, .int .i64 l10, .int .i64 l11]] w (ChkPost (OkO b0 b1 l00 l01 l10 l11) (w.alloc (.cells #[.int .i64 b0, .int .i64 b1, .int .i64 l00, .int .i64 l01, .int .i64 l10, .int .i64 l11] 47))) := by
 have c0 : b0 < 0 ∨ b0 = 0 ∨ b0 = 1 ∨ 1 < b0 := by omega
 have c1 : b1 < 0 ∨ b1 = 0 ∨ b1 = 1 ∨ 1 < b1 := by omega
 rcases c0 with c0 | rfl | rfl | c0 <;> rcases c1 with c1 | rfl | rfl | c1
 all_goals
  go_enter Tryz.func164, Tryz.ntmps164
  go_wp2
  refine wp_loop_rounds 3 ?_
  repeat any_goals (first | (rw [rounds_succ]; go_wp2) | (refine wp_loop_rounds 3 ?_))
  all_goals
   go_ret
   refine ⟨_, rfl, ?_, rfl⟩
   (try simp only [beq_iff_eq, beq_eq_false_iff_ne, ne_eq] at *)
   unfold OkO
   first | omega | (refine ⟨fun _ => ?_, fun _ => by trivial⟩; omega)
end Go.Proofs.YtnodagljaoonjaaGreatDoor.off
/- The contracts of offer.check, offer.Plies, offer.Make. -/
namespace Go.Proofs.YtnodagljaoonjaaGreatDoor.off
open Go.ChangeShapes Go.WideShapes Go.ChangeAt Go.RowKit
set_option linter.unusedVariables false
set_option maxHeartbeats 4000000
def ArgsOk (kind player moves : Int) : Prop := (kind = 0 ∨ kind = 1) ∧ (player = 0 ∨ player = 1) ∧ 0 ≤ moves ∧ moves ≤ 400
theorem check_any (b0 b1 l00 l01 l10 l11 kind player moves : Int) (w : World) :
  Calls Tryz.prog 129 #[.agg #[.int .i64 b0, .int .i64 b1, .int .i64 l00, .int .i64 l01, .int .i64 l10, .int .i64 l11], .int .i64 kind, .int .i64 player, .int .i64 moves] w (ChkPost (OkO b0 b1 l00 l01 l10 l11 ∧ ArgsOk kind player moves) ((w.alloc (.cells #[.int .i64 b0, .int .i64 b1, .int .i64 l00, .int .i64 l01, .int .i64 l10, .int .i64 l11] 47)).alloc (.cells #[.int .i64 b0, .int .i64 b1, .int .i64 l00, .int .i64 l01, .int .i64 l10, .int .i64 l11] 47))) := by
 go_enter Tryz.func129, Tryz.ntmps129
 go_wp2_with fail
 refine (Check_any _ _ _ _ _ _ _).mono ?_
 rintro e w1 ⟨c, rfl, hc, rfl⟩
 by_cases h0 : c = 0
 ·have hok := Lib.hid (hc.1 h0)
  subst h0
  clear hc
  go_wp2
  all_goals
   go_ret
   refine ⟨_, rfl, ?_, rfl⟩
   unfold ArgsOk
   first | (refine ⟨fun _ => ⟨hok.out, ?_⟩, fun _ => by trivial⟩; omega) | (refine ⟨fun h => ?_, fun h => ?_⟩ <;> omega)
 ·have h1 : (c != 0) = true := by simpa using h0
  have hn := Lib.hid (fun h => h0 (hc.2 h))
  clear hc h0
  go_wp2
  go_ret
  exact ⟨_, rfl, ⟨fun h => by simp [h] at h1, fun h => absurd h.1 hn.out⟩, rfl⟩
def plies (player moves : Int) : Int := if moves % 2 = player then (if 2 ≤ moves then 2 else 0) else (if 1 ≤ moves then 1 else 0)
theorem Plies_any (player moves : Int) (w : World) (hp : player = 0 ∨ player = 1) (h0 : 0 ≤ moves) (h1 : moves ≤ 400) :
  Calls Tryz.prog 89 #[.int .i64 player, .int .i64 moves] w fun e w' => e = .returned (.int .i64 (plies player moves)) ∧ w = w' := by
 rcases hp with rfl | rfl
 all_goals
  go_enter Tryz.func89, Tryz.ntmps89
  go_wp2
  all_goals
   go_ret
   refine ⟨congrArg (fun n => Ending.returned (Value.int .i64 n)) (?_ : (_ : Int) = plies _ moves), rfl⟩
   simp only [beq_iff_eq, beq_eq_false_iff_ne] at *
   unfold plies
   split <;> (try split) <;> omega
end Go.Proofs.YtnodagljaoonjaaGreatDoor.off
/- The contracts of offer.Make, offer.open, offer.Decline, offer.Accept, offer.Move and offer.Back. -/
namespace Go.Proofs.YtnodagljaoonjaaGreatDoor.off
open Go.ChangeShapes Go.WideShapes Go.ChangeAt Go.RowKit
set_option linter.unusedVariables false
set_option maxHeartbeats 4000000
theorem Make_twice_00 (b0 b1 l00 l01 l10 l11 n : Int) (w : World) (hok : OkO b0 b1 l00 l01 l10 l11) (hn0 : 0 ≤ n) (hn1 : n ≤ 400) (h : 0 ≤ b0) :
  Calls Tryz.prog 86 #[.agg #[.int .i64 b0, .int .i64 b1, .int .i64 l00, .int .i64 l01, .int .i64 l10, .int .i64 l11], .int .i64 0, .int .i64 0, .int .i64 n] w (fun e w' => e = .returned (.tuple #[.agg #[.int .i64 0, .int .i64 0, .int .i64 0, .int .i64 0, .int .i64 0, .int .i64 0], .int .i64 7]) ∧ Below w.heap.size w w') := by
 have H := Lib.hid hok
 clear hok
 go_enter Tryz.func86, Tryz.ntmps86
 go_wp2_with fail
 refine (check_any b0 b1 l00 l01 l10 l11 0 0 n _).mono ?_
 rintro e w1 ⟨c, rfl, hc, rfl⟩
 obtain rfl : c = 0 := hc.2 ⟨H.out, by unfold ArgsOk; omega⟩
 clear hc
 go_wp2
 go_returns
 exact ⟨rfl, by go_grown⟩
theorem Make_time_00 (b0 b1 l00 l01 l10 l11 n : Int) (w : World) (hok : OkO b0 b1 l00 l01 l10 l11) (hn0 : 0 ≤ n) (hn1 : n ≤ 400) (h : b0 < 0) (h2 : (l00 == n) = true) :
  Calls Tryz.prog 86 #[.agg #[.int .i64 b0, .int .i64 b1, .int .i64 l00, .int .i64 l01, .int .i64 l10, .int .i64 l11], .int .i64 0, .int .i64 0, .int .i64 n] w (fun e w' => e = .returned (.tuple #[.agg #[.int .i64 0, .int .i64 0, .int .i64 0, .int .i64 0, .int .i64 0, .int .i64 0], .int .i64 11]) ∧ Below w.heap.size w w') := by
 have H := Lib.hid hok
 clear hok
 go_enter Tryz.func86, Tryz.ntmps86
 go_wp2_with fail
 refine (check_any b0 b1 l00 l01 l10 l11 0 0 n _).mono ?_
 rintro e w1 ⟨c, rfl, hc, rfl⟩
 obtain rfl : c = 0 := hc.2 ⟨H.out, by unfold ArgsOk; omega⟩
 clear hc
 go_wp2
 go_returns
 exact ⟨rfl, by go_grown⟩
theorem Make_ok_00 (b0 b1 l00 l01 l10 l11 n : Int) (w : World) (hok : OkO b0 b1 l00 l01 l10 l11) (hn0 : 0 ≤ n) (hn1 : n ≤ 400) (h : b0 < 0) (h2 : (l00 == n) = false) :
  Calls Tryz.prog 86 #[.agg #[.int .i64 b0, .int .i64 b1, .int .i64 l00, .int .i64 l01, .int .i64 l10, .int .i64 l11], .int .i64 0, .int .i64 0, .int .i64 n] w (fun e w' => e = .returned (.tuple #[.agg #[.int .i64 0, .int .i64 b1, .int .i64 n, .int .i64 l01, .int .i64 l10, .int .i64 l11], .int .i64 0]) ∧ Below w.heap.size w w') := by
 have H := Lib.hid hok
 clear hok
 go_enter Tryz.func86, Tryz.ntmps86
 go_wp2_with fail
 refine (check_any b0 b1 l00 l01 l10 l11 0 0 n _).mono ?_
 rintro e w1 ⟨c, rfl, hc, rfl⟩
 obtain rfl : c = 0 := hc.2 ⟨H.out, by unfold ArgsOk; omega⟩
 clear hc
 go_wp2
 go_region
 all_goals (go_wp2; go_returns; exact ⟨rfl, by go_grown⟩)
theorem Make_twice_01 (b0 b1 l00 l01 l10 l11 n : Int) (w : World) (hok : OkO b0 b1 l00 l01 l10 l11) (hn0 : 0 ≤ n) (hn1 : n ≤ 400) (h : 0 ≤ b0) :
  Calls Tryz.prog 86 #[.agg #[.int .i64 b0, .int .i64 b1, .int .i64 l00, .int .i64 l01, .int .i64 l10, .int .i64 l11], .int .i64 0, .int .i64 1, .int .i64 n] w (fun e w' => e = .returned (.tuple #[.agg #[.int .i64 0, .int .i64 0, .int .i64 0, .int .i64 0, .int .i64 0, .int .i64 0], .int .i64 7]) ∧ Below w.heap.size w w') := by
 have H := Lib.hid hok
 clear hok
 go_enter Tryz.func86, Tryz.ntmps86
 go_wp2_with fail
 refine (check_any b0 b1 l00 l01 l10 l11 0 1 n _).mono ?_
 rintro e w1 ⟨c, rfl, hc, rfl⟩
 obtain rfl : c = 0 := hc.2 ⟨H.out, by unfold ArgsOk; omega⟩
 clear hc
 go_wp2
 go_returns
 exact ⟨rfl, by go_grown⟩
theorem Make_time_01 (b0 b1 l00 l01 l10 l11 n : Int) (w : World) (hok : OkO b0 b1 l00 l01 l10 l11) (hn0 : 0 ≤ n) (hn1 : n ≤ 400) (h : b0 < 0) (h2 : (l01 == n) = true) :
  Calls Tryz.prog 86 #[.agg #[.int .i64 b0, .int .i64 b1, .int .i64 l00, .int .i64 l01, .int .i64 l10, .int .i64 l11], .int .i64 0, .int .i64 1, .int .i64 n] w (fun e w' => e = .returned (.tuple #[.agg #[.int .i64 0, .int .i64 0, .int .i64 0, .int .i64 0, .int .i64 0, .int .i64 0], .int .i64 11]) ∧ Below w.heap.size w w') := by
 have H := Lib.hid hok
 clear hok
 go_enter Tryz.func86, Tryz.ntmps86
 go_wp2_with fail
 refine (check_any b0 b1 l00 l01 l10 l11 0 1 n _).mono ?_
 rintro e w1 ⟨c, rfl, hc, rfl⟩
 obtain rfl : c = 0 := hc.2 ⟨H.out, by unfold ArgsOk; omega⟩
 clear hc
 go_wp2
 go_returns
 exact ⟨rfl, by go_grown⟩
theorem Make_ok_01 (b0 b1 l00 l01 l10 l11 n : Int) (w : World) (hok : OkO b0 b1 l00 l01 l10 l11) (hn0 : 0 ≤ n) (hn1 : n ≤ 400) (h : b0 < 0) (h2 : (l01 == n) = false) :
  Calls Tryz.prog 86 #[.agg #[.int .i64 b0, .int .i64 b1, .int .i64 l00, .int .i64 l01, .int .i64 l10, .int .i64 l11], .int .i64 0, .int .i64 1, .int .i64 n] w (fun e w' => e = .returned (.tuple #[.agg #[.int .i64 1, .int .i64 b1, .int .i64 l00, .int .i64 n, .int .i64 l10, .int .i64 l11], .int .i64 0]) ∧ Below w.heap.size w w') := by
 have H := Lib.hid hok
 clear hok
 go_enter Tryz.func86, Tryz.ntmps86
 go_wp2_with fail
 refine (check_any b0 b1 l00 l01 l10 l11 0 1 n _).mono ?_
 rintro e w1 ⟨c, rfl, hc, rfl⟩
 obtain rfl : c = 0 := hc.2 ⟨H.out, by unfold ArgsOk; omega⟩
 clear hc
 go_wp2
 go_region
 all_goals (go_wp2; go_returns; exact ⟨rfl, by go_grown⟩)
theorem Make_twice_10 (b0 b1 l00 l01 l10 l11 n : Int) (w : World) (hok : OkO b0 b1 l00 l01 l10 l11) (hn0 : 0 ≤ n) (hn1 : n ≤ 400) (h : 0 ≤ b1) :
  Calls Tryz.prog 86 #[.agg #[.int .i64 b0, .int .i64 b1, .int .i64 l00, .int .i64 l01, .int .i64 l10, .int .i64 l11], .int .i64 1, .int .i64 0, .int .i64 n] w (fun e w' => e = .returned (.tuple #[.agg #[.int .i64 0, .int .i64 0, .int .i64 0, .int .i64 0, .int .i64 0, .int .i64 0], .int .i64 7]) ∧ Below w.heap.size w w') := by
 have H := Lib.hid hok
 clear hok
 go_enter Tryz.func86, Tryz.ntmps86
 go_wp2_with fail
 refine (check_any b0 b1 l00 l01 l10 l11 1 0 n _).mono ?_
 rintro e w1 ⟨c, rfl, hc, rfl⟩
 obtain rfl : c = 0 := hc.2 ⟨H.out, by unfold ArgsOk; omega⟩
 clear hc
 go_wp2
 go_returns
 exact ⟨rfl, by go_grown⟩
theorem Make_time_10 (b0 b1 l00 l01 l10 l11 n : Int) (w : World) (hok : OkO b0 b1 l00 l01 l10 l11) (hn0 : 0 ≤ n) (hn1 : n ≤ 400) (h : b1 < 0) (h2 : (l10 == n) = true) :
  Calls Tryz.prog 86 #[.agg #[.int .i64 b0, .int .i64 b1, .int .i64 l00, .int .i64 l01, .int .i64 l10, .int .i64 l11], .int .i64 1, .int .i64 0, .int .i64 n] w (fun e w' => e = .returned (.tuple #[.agg #[.int .i64 0, .int .i64 0, .int .i64 0, .int .i64 0, .int .i64 0, .int .i64 0], .int .i64 11]) ∧ Below w.heap.size w w') := by
 have H := Lib.hid hok
 clear hok
 go_enter Tryz.func86, Tryz.ntmps86
 go_wp2_with fail
 refine (check_any b0 b1 l00 l01 l10 l11 1 0 n _).mono ?_
 rintro e w1 ⟨c, rfl, hc, rfl⟩
 obtain rfl : c = 0 := hc.2 ⟨H.out, by unfold ArgsOk; omega⟩
 clear hc
 go_wp2
 go_returns
 exact ⟨rfl, by go_grown⟩
theorem Make_none_10 (b0 b1 l00 l01 l10 l11 n : Int) (w : World) (hok : OkO b0 b1 l00 l01 l10 l11) (hn0 : 0 ≤ n) (hn1 : n ≤ 400) (h : b1 < 0) (h2 : (l10 == n) = false) (h3 : (plies 0 n == 0) = true) :
  Calls Tryz.prog 86 #[.agg #[.int .i64 b0, .int .i64 b1, .int .i64 l00, .int .i64 l01, .int .i64 l10, .int .i64 l11], .int .i64 1, .int .i64 0, .int .i64 n] w (fun e w' => e = .returned (.tuple #[.agg #[.int .i64 0, .int .i64 0, .int .i64 0, .int .i64 0, .int .i64 0, .int .i64 0], .int .i64 8]) ∧ Below w.heap.size w w') := by
 have H := Lib.hid hok
 clear hok
 go_enter Tryz.func86, Tryz.ntmps86
 go_wp2_with fail
 refine (check_any b0 b1 l00 l01 l10 l11 1 0 n _).mono ?_
 rintro e w1 ⟨c, rfl, hc, rfl⟩
 obtain rfl : c = 0 := hc.2 ⟨H.out, by unfold ArgsOk; omega⟩
 clear hc
 go_wp2_with (go_at_call 89; refine (Plies_any _ _ _ (by omega) (by omega) (by omega)).mono ?_; rintro e w' ⟨rfl, rfl⟩)
 go_returns
 exact ⟨rfl, by go_grown⟩
theorem Make_ok_10 (b0 b1 l00 l01 l10 l11 n : Int) (w : World) (hok : OkO b0 b1 l00 l01 l10 l11) (hn0 : 0 ≤ n) (hn1 : n ≤ 400) (h : b1 < 0) (h2 : (l10 == n) = false) (h3 : (plies 0 n == 0) = false) :
  Calls Tryz.prog 86 #[.agg #[.int .i64 b0, .int .i64 b1, .int .i64 l00, .int .i64 l01, .int .i64 l10, .int .i64 l11], .int .i64 1, .int .i64 0, .int .i64 n] w (fun e w' => e = .returned (.tuple #[.agg #[.int .i64 b0, .int .i64 0, .int .i64 l00, .int .i64 l01, .int .i64 n, .int .i64 l11], .int .i64 0]) ∧ Below w.heap.size w w') := by
 have H := Lib.hid hok
 clear hok
 go_enter Tryz.func86, Tryz.ntmps86
 go_wp2_with fail
 refine (check_any b0 b1 l00 l01 l10 l11 1 0 n _).mono ?_
 rintro e w1 ⟨c, rfl, hc, rfl⟩
 obtain rfl : c = 0 := hc.2 ⟨H.out, by unfold ArgsOk; omega⟩
 clear hc
 go_wp2_with (go_at_call 89; refine (Plies_any _ _ _ (by omega) (by omega) (by omega)).mono ?_; rintro e w' ⟨rfl, rfl⟩)
 go_region
 all_goals (go_wp2; go_returns; exact ⟨rfl, by go_grown⟩)
theorem Make_twice_11 (b0 b1 l00 l01 l10 l11 n : Int) (w : World) (hok : OkO b0 b1 l00 l01 l10 l11) (hn0 : 0 ≤ n) (hn1 : n ≤ 400) (h : 0 ≤ b1) :
  Calls Tryz.prog 86 #[.agg #[.int .i64 b0, .int .i64 b1, .int .i64 l00, .int .i64 l01, .int .i64 l10, .int .i64 l11], .int .i64 1, .int .i64 1, .int .i64 n] w (fun e w' => e = .returned (.tuple #[.agg #[.int .i64 0, .int .i64 0, .int .i64 0, .int .i64 0, .int .i64 0, .int .i64 0], .int .i64 7]) ∧ Below w.heap.size w w') := by
 have H := Lib.hid hok
 clear hok
 go_enter Tryz.func86, Tryz.ntmps86
 go_wp2_with fail
 refine (check_any b0 b1 l00 l01 l10 l11 1 1 n _).mono ?_
 rintro e w1 ⟨c, rfl, hc, rfl⟩
 obtain rfl : c = 0 := hc.2 ⟨H.out, by unfold ArgsOk; omega⟩
 clear hc
 go_wp2
 go_returns
 exact ⟨rfl, by go_grown⟩
theorem Make_time_11 (b0 b1 l00 l01 l10 l11 n : Int) (w : World) (hok : OkO b0 b1 l00 l01 l10 l11) (hn0 : 0 ≤ n) (hn1 : n ≤ 400) (h : b1 < 0) (h2 : (l11 == n) = true) :
  Calls Tryz.prog 86 #[.agg #[.int .i64 b0, .int .i64 b1, .int .i64 l00, .int .i64 l01, .int .i64 l10, .int .i64 l11], .int .i64 1, .int .i64 1, .int .i64 n] w (fun e w' => e = .returned (.tuple #[.agg #[.int .i64 0, .int .i64 0, .int .i64 0, .int .i64 0, .int .i64 0, .int .i64 0], .int .i64 11]) ∧ Below w.heap.size w w') := by
 have H := Lib.hid hok
 clear hok
 go_enter Tryz.func86, Tryz.ntmps86
 go_wp2_with fail
 refine (check_any b0 b1 l00 l01 l10 l11 1 1 n _).mono ?_
 rintro e w1 ⟨c, rfl, hc, rfl⟩
 obtain rfl : c = 0 := hc.2 ⟨H.out, by unfold ArgsOk; omega⟩
 clear hc
 go_wp2
 go_returns
 exact ⟨rfl, by go_grown⟩
theorem Make_none_11 (b0 b1 l00 l01 l10 l11 n : Int) (w : World) (hok : OkO b0 b1 l00 l01 l10 l11) (hn0 : 0 ≤ n) (hn1 : n ≤ 400) (h : b1 < 0) (h2 : (l11 == n) = false) (h3 : (plies 1 n == 0) = true) :
  Calls Tryz.prog 86 #[.agg #[.int .i64 b0, .int .i64 b1, .int .i64 l00, .int .i64 l01, .int .i64 l10, .int .i64 l11], .int .i64 1, .int .i64 1, .int .i64 n] w (fun e w' => e = .returned (.tuple #[.agg #[.int .i64 0, .int .i64 0, .int .i64 0, .int .i64 0, .int .i64 0, .int .i64 0], .int .i64 8]) ∧ Below w.heap.size w w') := by
 have H := Lib.hid hok
 clear hok
 go_enter Tryz.func86, Tryz.ntmps86
 go_wp2_with fail
 refine (check_any b0 b1 l00 l01 l10 l11 1 1 n _).mono ?_
 rintro e w1 ⟨c, rfl, hc, rfl⟩
 obtain rfl : c = 0 := hc.2 ⟨H.out, by unfold ArgsOk; omega⟩
 clear hc
 go_wp2_with (go_at_call 89; refine (Plies_any _ _ _ (by omega) (by omega) (by omega)).mono ?_; rintro e w' ⟨rfl, rfl⟩)
 go_returns
 exact ⟨rfl, by go_grown⟩
theorem Make_ok_11 (b0 b1 l00 l01 l10 l11 n : Int) (w : World) (hok : OkO b0 b1 l00 l01 l10 l11) (hn0 : 0 ≤ n) (hn1 : n ≤ 400) (h : b1 < 0) (h2 : (l11 == n) = false) (h3 : (plies 1 n == 0) = false) :
  Calls Tryz.prog 86 #[.agg #[.int .i64 b0, .int .i64 b1, .int .i64 l00, .int .i64 l01, .int .i64 l10, .int .i64 l11], .int .i64 1, .int .i64 1, .int .i64 n] w (fun e w' => e = .returned (.tuple #[.agg #[.int .i64 b0, .int .i64 1, .int .i64 l00, .int .i64 l01, .int .i64 l10, .int .i64 n], .int .i64 0]) ∧ Below w.heap.size w w') := by
 have H := Lib.hid hok
 clear hok
 go_enter Tryz.func86, Tryz.ntmps86
 go_wp2_with fail
 refine (check_any b0 b1 l00 l01 l10 l11 1 1 n _).mono ?_
 rintro e w1 ⟨c, rfl, hc, rfl⟩
 obtain rfl : c = 0 := hc.2 ⟨H.out, by unfold ArgsOk; omega⟩
 clear hc
 go_wp2_with (go_at_call 89; refine (Plies_any _ _ _ (by omega) (by omega) (by omega)).mono ?_; rintro e w' ⟨rfl, rfl⟩)
 go_region
 all_goals (go_wp2; go_returns; exact ⟨rfl, by go_grown⟩)
theorem open_ok_00 (b0 b1 l00 l01 l10 l11 n : Int) (w : World) (hok : OkO b0 b1 l00 l01 l10 l11) (hn0 : 0 ≤ n) (hn1 : n ≤ 400) (h : (b0 != 1) = false) :
  Calls Tryz.prog 130 #[.agg #[.int .i64 b0, .int .i64 b1, .int .i64 l00, .int .i64 l01, .int .i64 l10, .int .i64 l11], .int .i64 0, .int .i64 0, .int .i64 n] w (fun e w' => e = .returned (.int .i64 0) ∧ ((w.alloc (.cells #[.int .i64 b0, .int .i64 b1, .int .i64 l00, .int .i64 l01, .int .i64 l10, .int .i64 l11] 47)).alloc (.cells #[.int .i64 b0, .int .i64 b1, .int .i64 l00, .int .i64 l01, .int .i64 l10, .int .i64 l11] 47)).alloc (.cells #[.int .i64 b0, .int .i64 b1, .int .i64 l00, .int .i64 l01, .int .i64 l10, .int .i64 l11] 47) = w') := by
 have H := Lib.hid hok
 clear hok
 go_enter Tryz.func130, Tryz.ntmps130
 go_wp2_with fail
 refine (check_any b0 b1 l00 l01 l10 l11 0 0 n _).mono ?_
 rintro e w1 ⟨c, rfl, hc, rfl⟩
 obtain rfl : c = 0 := hc.2 ⟨H.out, by unfold ArgsOk; omega⟩
 clear hc
 go_wp2
 go_ret
 exact ⟨rfl, rfl⟩
theorem open_state_00 (b0 b1 l00 l01 l10 l11 n : Int) (w : World) (hok : OkO b0 b1 l00 l01 l10 l11) (hn0 : 0 ≤ n) (hn1 : n ≤ 400) (h : (b0 != 1) = true) :
  Calls Tryz.prog 130 #[.agg #[.int .i64 b0, .int .i64 b1, .int .i64 l00, .int .i64 l01, .int .i64 l10, .int .i64 l11], .int .i64 0, .int .i64 0, .int .i64 n] w (fun e w' => e = .returned (.int .i64 10) ∧ ((w.alloc (.cells #[.int .i64 b0, .int .i64 b1, .int .i64 l00, .int .i64 l01, .int .i64 l10, .int .i64 l11] 47)).alloc (.cells #[.int .i64 b0, .int .i64 b1, .int .i64 l00, .int .i64 l01, .int .i64 l10, .int .i64 l11] 47)).alloc (.cells #[.int .i64 b0, .int .i64 b1, .int .i64 l00, .int .i64 l01, .int .i64 l10, .int .i64 l11] 47) = w') := by
 have H := Lib.hid hok
 clear hok
 go_enter Tryz.func130, Tryz.ntmps130
 go_wp2_with fail
 refine (check_any b0 b1 l00 l01 l10 l11 0 0 n _).mono ?_
 rintro e w1 ⟨c, rfl, hc, rfl⟩
 obtain rfl : c = 0 := hc.2 ⟨H.out, by unfold ArgsOk; omega⟩
 clear hc
 go_wp2
 go_ret
 exact ⟨rfl, rfl⟩
theorem Decline_ok_00 (b0 b1 l00 l01 l10 l11 n : Int) (w : World) (hok : OkO b0 b1 l00 l01 l10 l11) (hn0 : 0 ≤ n) (hn1 : n ≤ 400) (h : (b0 != 1) = false) :
  Calls Tryz.prog 87 #[.agg #[.int .i64 b0, .int .i64 b1, .int .i64 l00, .int .i64 l01, .int .i64 l10, .int .i64 l11], .int .i64 0, .int .i64 0, .int .i64 n] w (fun e w' => e = .returned (.tuple #[.agg #[.int .i64 (-1), .int .i64 b1, .int .i64 l00, .int .i64 l01, .int .i64 l10, .int .i64 l11], .int .i64 0]) ∧ Below w.heap.size w w') := by
 have H := Lib.hid hok
 clear hok
 go_enter Tryz.func87, Tryz.ntmps87
 go_wp2_with fail
 refine (open_ok_00 b0 b1 l00 l01 l10 l11 n _ H.out hn0 hn1 h).mono ?_
 rintro e w1 ⟨rfl, rfl⟩
 go_wp2
 go_returns
 exact ⟨rfl, by go_grown⟩
theorem Decline_state_00 (b0 b1 l00 l01 l10 l11 n : Int) (w : World) (hok : OkO b0 b1 l00 l01 l10 l11) (hn0 : 0 ≤ n) (hn1 : n ≤ 400) (h : (b0 != 1) = true) :
  Calls Tryz.prog 87 #[.agg #[.int .i64 b0, .int .i64 b1, .int .i64 l00, .int .i64 l01, .int .i64 l10, .int .i64 l11], .int .i64 0, .int .i64 0, .int .i64 n] w (fun e w' => e = .returned (.tuple #[.agg #[.int .i64 0, .int .i64 0, .int .i64 0, .int .i64 0, .int .i64 0, .int .i64 0], .int .i64 10]) ∧ Below w.heap.size w w') := by
 have H := Lib.hid hok
 clear hok
 go_enter Tryz.func87, Tryz.ntmps87
 go_wp2_with fail
 refine (open_state_00 b0 b1 l00 l01 l10 l11 n _ H.out hn0 hn1 h).mono ?_
 rintro e w1 ⟨rfl, rfl⟩
 go_wp2
 go_returns
 exact ⟨rfl, by go_grown⟩
theorem Accept_ok_00 (b0 b1 l00 l01 l10 l11 n : Int) (w : World) (hok : OkO b0 b1 l00 l01 l10 l11) (hn0 : 0 ≤ n) (hn1 : n ≤ 400) (h : (b0 != 1) = false) :
  Calls Tryz.prog 88 #[.agg #[.int .i64 b0, .int .i64 b1, .int .i64 l00, .int .i64 l01, .int .i64 l10, .int .i64 l11], .int .i64 0, .int .i64 0, .int .i64 n] w (fun e w' => e = .returned (.tuple #[.agg #[.int .i64 (-1), .int .i64 (-1), .int .i64 l00, .int .i64 l01, .int .i64 l10, .int .i64 l11], .int .i64 0]) ∧ Below w.heap.size w w') := by
 have H := Lib.hid hok
 clear hok
 go_enter Tryz.func88, Tryz.ntmps88
 go_wp2_with fail
 refine (open_ok_00 b0 b1 l00 l01 l10 l11 n _ H.out hn0 hn1 h).mono ?_
 rintro e w1 ⟨rfl, rfl⟩
 go_wp2
 go_returns
 exact ⟨rfl, by go_grown⟩
theorem open_ok_01 (b0 b1 l00 l01 l10 l11 n : Int) (w : World) (hok : OkO b0 b1 l00 l01 l10 l11) (hn0 : 0 ≤ n) (hn1 : n ≤ 400) (h : (b0 != 0) = false) :
  Calls Tryz.prog 130 #[.agg #[.int .i64 b0, .int .i64 b1, .int .i64 l00, .int .i64 l01, .int .i64 l10, .int .i64 l11], .int .i64 0, .int .i64 1, .int .i64 n] w (fun e w' => e = .returned (.int .i64 0) ∧ ((w.alloc (.cells #[.int .i64 b0, .int .i64 b1, .int .i64 l00, .int .i64 l01, .int .i64 l10, .int .i64 l11] 47)).alloc (.cells #[.int .i64 b0, .int .i64 b1, .int .i64 l00, .int .i64 l01, .int .i64 l10, .int .i64 l11] 47)).alloc (.cells #[.int .i64 b0, .int .i64 b1, .int .i64 l00, .int .i64 l01, .int .i64 l10, .int .i64 l11] 47) = w') := by
 have H := Lib.hid hok
 clear hok
 go_enter Tryz.func130, Tryz.ntmps130
 go_wp2_with fail
 refine (check_any b0 b1 l00 l01 l10 l11 0 1 n _).mono ?_
 rintro e w1 ⟨c, rfl, hc, rfl⟩
 obtain rfl : c = 0 := hc.2 ⟨H.out, by unfold ArgsOk; omega⟩
 clear hc
 go_wp2
 go_ret
 exact ⟨rfl, rfl⟩
theorem open_state_01 (b0 b1 l00 l01 l10 l11 n : Int) (w : World) (hok : OkO b0 b1 l00 l01 l10 l11) (hn0 : 0 ≤ n) (hn1 : n ≤ 400) (h : (b0 != 0) = true) :
  Calls Tryz.prog 130 #[.agg #[.int .i64 b0, .int .i64 b1, .int .i64 l00, .int .i64 l01, .int .i64 l10, .int .i64 l11], .int .i64 0, .int .i64 1, .int .i64 n] w (fun e w' => e = .returned (.int .i64 10) ∧ ((w.alloc (.cells #[.int .i64 b0, .int .i64 b1, .int .i64 l00, .int .i64 l01, .int .i64 l10, .int .i64 l11] 47)).alloc (.cells #[.int .i64 b0, .int .i64 b1, .int .i64 l00, .int .i64 l01, .int .i64 l10, .int .i64 l11] 47)).alloc (.cells #[.int .i64 b0, .int .i64 b1, .int .i64 l00, .int .i64 l01, .int .i64 l10, .int .i64 l11] 47) = w') := by
 have H := Lib.hid hok
 clear hok
 go_enter Tryz.func130, Tryz.ntmps130
 go_wp2_with fail
 refine (check_any b0 b1 l00 l01 l10 l11 0 1 n _).mono ?_
 rintro e w1 ⟨c, rfl, hc, rfl⟩
 obtain rfl : c = 0 := hc.2 ⟨H.out, by unfold ArgsOk; omega⟩
 clear hc
 go_wp2
 go_ret
 exact ⟨rfl, rfl⟩
theorem Decline_ok_01 (b0 b1 l00 l01 l10 l11 n : Int) (w : World) (hok : OkO b0 b1 l00 l01 l10 l11) (hn0 : 0 ≤ n) (hn1 : n ≤ 400) (h : (b0 != 0) = false) :
  Calls Tryz.prog 87 #[.agg #[.int .i64 b0, .int .i64 b1, .int .i64 l00, .int .i64 l01, .int .i64 l10, .int .i64 l11], .int .i64 0, .int .i64 1, .int .i64 n] w (fun e w' => e = .returned (.tuple #[.agg #[.int .i64 (-1), .int .i64 b1, .int .i64 l00, .int .i64 l01, .int .i64 l10, .int .i64 l11], .int .i64 0]) ∧ Below w.heap.size w w') := by
 have H := Lib.hid hok
 clear hok
 go_enter Tryz.func87, Tryz.ntmps87
 go_wp2_with fail
 refine (open_ok_01 b0 b1 l00 l01 l10 l11 n _ H.out hn0 hn1 h).mono ?_
 rintro e w1 ⟨rfl, rfl⟩
 go_wp2
 go_returns
 exact ⟨rfl, by go_grown⟩
theorem Decline_state_01 (b0 b1 l00 l01 l10 l11 n : Int) (w : World) (hok : OkO b0 b1 l00 l01 l10 l11) (hn0 : 0 ≤ n) (hn1 : n ≤ 400) (h : (b0 != 0) = true) :
  Calls Tryz.prog 87 #[.agg #[.int .i64 b0, .int .i64 b1, .int .i64 l00, .int .i64 l01, .int .i64 l10, .int .i64 l11], .int .i64 0, .int .i64 1, .int .i64 n] w (fun e w' => e = .returned (.tuple #[.agg #[.int .i64 0, .int .i64 0, .int .i64 0, .int .i64 0, .int .i64 0, .int .i64 0], .int .i64 10]) ∧ Below w.heap.size w w') := by
 have H := Lib.hid hok
 clear hok
 go_enter Tryz.func87, Tryz.ntmps87
 go_wp2_with fail
 refine (open_state_01 b0 b1 l00 l01 l10 l11 n _ H.out hn0 hn1 h).mono ?_
 rintro e w1 ⟨rfl, rfl⟩
 go_wp2
 go_returns
 exact ⟨rfl, by go_grown⟩
theorem Accept_ok_01 (b0 b1 l00 l01 l10 l11 n : Int) (w : World) (hok : OkO b0 b1 l00 l01 l10 l11) (hn0 : 0 ≤ n) (hn1 : n ≤ 400) (h : (b0 != 0) = false) :
  Calls Tryz.prog 88 #[.agg #[.int .i64 b0, .int .i64 b1, .int .i64 l00, .int .i64 l01, .int .i64 l10, .int .i64 l11], .int .i64 0, .int .i64 1, .int .i64 n] w (fun e w' => e = .returned (.tuple #[.agg #[.int .i64 (-1), .int .i64 (-1), .int .i64 l00, .int .i64 l01, .int .i64 l10, .int .i64 l11], .int .i64 0]) ∧ Below w.heap.size w w') := by
 have H := Lib.hid hok
 clear hok
 go_enter Tryz.func88, Tryz.ntmps88
 go_wp2_with fail
 refine (open_ok_01 b0 b1 l00 l01 l10 l11 n _ H.out hn0 hn1 h).mono ?_
 rintro e w1 ⟨rfl, rfl⟩
 go_wp2
 go_returns
 exact ⟨rfl, by go_grown⟩
theorem open_ok_10 (b0 b1 l00 l01 l10 l11 n : Int) (w : World) (hok : OkO b0 b1 l00 l01 l10 l11) (hn0 : 0 ≤ n) (hn1 : n ≤ 400) (h : (b1 != 1) = false) :
  Calls Tryz.prog 130 #[.agg #[.int .i64 b0, .int .i64 b1, .int .i64 l00, .int .i64 l01, .int .i64 l10, .int .i64 l11], .int .i64 1, .int .i64 0, .int .i64 n] w (fun e w' => e = .returned (.int .i64 0) ∧ ((w.alloc (.cells #[.int .i64 b0, .int .i64 b1, .int .i64 l00, .int .i64 l01, .int .i64 l10, .int .i64 l11] 47)).alloc (.cells #[.int .i64 b0, .int .i64 b1, .int .i64 l00, .int .i64 l01, .int .i64 l10, .int .i64 l11] 47)).alloc (.cells #[.int .i64 b0, .int .i64 b1, .int .i64 l00, .int .i64 l01, .int .i64 l10, .int .i64 l11] 47) = w') := by
 have H := Lib.hid hok
 clear hok
 go_enter Tryz.func130, Tryz.ntmps130
 go_wp2_with fail
 refine (check_any b0 b1 l00 l01 l10 l11 1 0 n _).mono ?_
 rintro e w1 ⟨c, rfl, hc, rfl⟩
 obtain rfl : c = 0 := hc.2 ⟨H.out, by unfold ArgsOk; omega⟩
 clear hc
 go_wp2
 go_ret
 exact ⟨rfl, rfl⟩
theorem open_state_10 (b0 b1 l00 l01 l10 l11 n : Int) (w : World) (hok : OkO b0 b1 l00 l01 l10 l11) (hn0 : 0 ≤ n) (hn1 : n ≤ 400) (h : (b1 != 1) = true) :
  Calls Tryz.prog 130 #[.agg #[.int .i64 b0, .int .i64 b1, .int .i64 l00, .int .i64 l01, .int .i64 l10, .int .i64 l11], .int .i64 1, .int .i64 0, .int .i64 n] w (fun e w' => e = .returned (.int .i64 10) ∧ ((w.alloc (.cells #[.int .i64 b0, .int .i64 b1, .int .i64 l00, .int .i64 l01, .int .i64 l10, .int .i64 l11] 47)).alloc (.cells #[.int .i64 b0, .int .i64 b1, .int .i64 l00, .int .i64 l01, .int .i64 l10, .int .i64 l11] 47)).alloc (.cells #[.int .i64 b0, .int .i64 b1, .int .i64 l00, .int .i64 l01, .int .i64 l10, .int .i64 l11] 47) = w') := by
 have H := Lib.hid hok
 clear hok
 go_enter Tryz.func130, Tryz.ntmps130
 go_wp2_with fail
 refine (check_any b0 b1 l00 l01 l10 l11 1 0 n _).mono ?_
 rintro e w1 ⟨c, rfl, hc, rfl⟩
 obtain rfl : c = 0 := hc.2 ⟨H.out, by unfold ArgsOk; omega⟩
 clear hc
 go_wp2
 go_ret
 exact ⟨rfl, rfl⟩
theorem Decline_ok_10 (b0 b1 l00 l01 l10 l11 n : Int) (w : World) (hok : OkO b0 b1 l00 l01 l10 l11) (hn0 : 0 ≤ n) (hn1 : n ≤ 400) (h : (b1 != 1) = false) :
  Calls Tryz.prog 87 #[.agg #[.int .i64 b0, .int .i64 b1, .int .i64 l00, .int .i64 l01, .int .i64 l10, .int .i64 l11], .int .i64 1, .int .i64 0, .int .i64 n] w (fun e w' => e = .returned (.tuple #[.agg #[.int .i64 b0, .int .i64 (-1), .int .i64 l00, .int .i64 l01, .int .i64 l10, .int .i64 l11], .int .i64 0]) ∧ Below w.heap.size w w') := by
 have H := Lib.hid hok
 clear hok
 go_enter Tryz.func87, Tryz.ntmps87
 go_wp2_with fail
 refine (open_ok_10 b0 b1 l00 l01 l10 l11 n _ H.out hn0 hn1 h).mono ?_
 rintro e w1 ⟨rfl, rfl⟩
 go_wp2
 go_returns
 exact ⟨rfl, by go_grown⟩
theorem Decline_state_10 (b0 b1 l00 l01 l10 l11 n : Int) (w : World) (hok : OkO b0 b1 l00 l01 l10 l11) (hn0 : 0 ≤ n) (hn1 : n ≤ 400) (h : (b1 != 1) = true) :
  Calls Tryz.prog 87 #[.agg #[.int .i64 b0, .int .i64 b1, .int .i64 l00, .int .i64 l01, .int .i64 l10, .int .i64 l11], .int .i64 1, .int .i64 0, .int .i64 n] w (fun e w' => e = .returned (.tuple #[.agg #[.int .i64 0, .int .i64 0, .int .i64 0, .int .i64 0, .int .i64 0, .int .i64 0], .int .i64 10]) ∧ Below w.heap.size w w') := by
 have H := Lib.hid hok
 clear hok
 go_enter Tryz.func87, Tryz.ntmps87
 go_wp2_with fail
 refine (open_state_10 b0 b1 l00 l01 l10 l11 n _ H.out hn0 hn1 h).mono ?_
 rintro e w1 ⟨rfl, rfl⟩
 go_wp2
 go_returns
 exact ⟨rfl, by go_grown⟩
theorem open_ok_11 (b0 b1 l00 l01 l10 l11 n : Int) (w : World) (hok : OkO b0 b1 l00 l01 l10 l11) (hn0 : 0 ≤ n) (hn1 : n ≤ 400) (h : (b1 != 0) = false) :
  Calls Tryz.prog 130 #[.agg #[.int .i64 b0, .int .i64 b1, .int .i64 l00, .int .i64 l01, .int .i64 l10, .int .i64 l11], .int .i64 1, .int .i64 1, .int .i64 n] w (fun e w' => e = .returned (.int .i64 0) ∧ ((w.alloc (.cells #[.int .i64 b0, .int .i64 b1, .int .i64 l00, .int .i64 l01, .int .i64 l10, .int .i64 l11] 47)).alloc (.cells #[.int .i64 b0, .int .i64 b1, .int .i64 l00, .int .i64 l01, .int .i64 l10, .int .i64 l11] 47)).alloc (.cells #[.int .i64 b0, .int .i64 b1, .int .i64 l00, .int .i64 l01, .int .i64 l10, .int .i64 l11] 47) = w') := by
 have H := Lib.hid hok
 clear hok
 go_enter Tryz.func130, Tryz.ntmps130
 go_wp2_with fail
 refine (check_any b0 b1 l00 l01 l10 l11 1 1 n _).mono ?_
 rintro e w1 ⟨c, rfl, hc, rfl⟩
 obtain rfl : c = 0 := hc.2 ⟨H.out, by unfold ArgsOk; omega⟩
 clear hc
 go_wp2
 go_ret
 exact ⟨rfl, rfl⟩
theorem open_state_11 (b0 b1 l00 l01 l10 l11 n : Int) (w : World) (hok : OkO b0 b1 l00 l01 l10 l11) (hn0 : 0 ≤ n) (hn1 : n ≤ 400) (h : (b1 != 0) = true) :
  Calls Tryz.prog 130 #[.agg #[.int .i64 b0, .int .i64 b1, .int .i64 l00, .int .i64 l01, .int .i64 l10, .int .i64 l11], .int .i64 1, .int .i64 1, .int .i64 n] w (fun e w' => e = .returned (.int .i64 10) ∧ ((w.alloc (.cells #[.int .i64 b0, .int .i64 b1, .int .i64 l00, .int .i64 l01, .int .i64 l10, .int .i64 l11] 47)).alloc (.cells #[.int .i64 b0, .int .i64 b1, .int .i64 l00, .int .i64 l01, .int .i64 l10, .int .i64 l11] 47)).alloc (.cells #[.int .i64 b0, .int .i64 b1, .int .i64 l00, .int .i64 l01, .int .i64 l10, .int .i64 l11] 47) = w') := by
 have H := Lib.hid hok
 clear hok
 go_enter Tryz.func130, Tryz.ntmps130
 go_wp2_with fail
 refine (check_any b0 b1 l00 l01 l10 l11 1 1 n _).mono ?_
 rintro e w1 ⟨c, rfl, hc, rfl⟩
 obtain rfl : c = 0 := hc.2 ⟨H.out, by unfold ArgsOk; omega⟩
 clear hc
 go_wp2
 go_ret
 exact ⟨rfl, rfl⟩
theorem Decline_ok_11 (b0 b1 l00 l01 l10 l11 n : Int) (w : World) (hok : OkO b0 b1 l00 l01 l10 l11) (hn0 : 0 ≤ n) (hn1 : n ≤ 400) (h : (b1 != 0) = false) :
  Calls Tryz.prog 87 #[.agg #[.int .i64 b0, .int .i64 b1, .int .i64 l00, .int .i64 l01, .int .i64 l10, .int .i64 l11], .int .i64 1, .int .i64 1, .int .i64 n] w (fun e w' => e = .returned (.tuple #[.agg #[.int .i64 b0, .int .i64 (-1), .int .i64 l00, .int .i64 l01, .int .i64 l10, .int .i64 l11], .int .i64 0]) ∧ Below w.heap.size w w') := by
 have H := Lib.hid hok
 clear hok
 go_enter Tryz.func87, Tryz.ntmps87
 go_wp2_with fail
 refine (open_ok_11 b0 b1 l00 l01 l10 l11 n _ H.out hn0 hn1 h).mono ?_
 rintro e w1 ⟨rfl, rfl⟩
 go_wp2
 go_returns
 exact ⟨rfl, by go_grown⟩
theorem Decline_state_11 (b0 b1 l00 l01 l10 l11 n : Int) (w : World) (hok : OkO b0 b1 l00 l01 l10 l11) (hn0 : 0 ≤ n) (hn1 : n ≤ 400) (h : (b1 != 0) = true) :
  Calls Tryz.prog 87 #[.agg #[.int .i64 b0, .int .i64 b1, .int .i64 l00, .int .i64 l01, .int .i64 l10, .int .i64 l11], .int .i64 1, .int .i64 1, .int .i64 n] w (fun e w' => e = .returned (.tuple #[.agg #[.int .i64 0, .int .i64 0, .int .i64 0, .int .i64 0, .int .i64 0, .int .i64 0], .int .i64 10]) ∧ Below w.heap.size w w') := by
 have H := Lib.hid hok
 clear hok
 go_enter Tryz.func87, Tryz.ntmps87
 go_wp2_with fail
 refine (open_state_11 b0 b1 l00 l01 l10 l11 n _ H.out hn0 hn1 h).mono ?_
 rintro e w1 ⟨rfl, rfl⟩
 go_wp2
 go_returns
 exact ⟨rfl, by go_grown⟩
theorem Move_hit_0 (b0 b1 l00 l01 l10 l11 : Int) (w : World) (hok : OkO b0 b1 l00 l01 l10 l11) (h : (b0 == 1) = true) :
  Calls Tryz.prog 126 #[.agg #[.int .i64 b0, .int .i64 b1, .int .i64 l00, .int .i64 l01, .int .i64 l10, .int .i64 l11], .int .i64 0] w (fun e w' => e = .returned (.tuple #[.agg #[.int .i64 (-1), .int .i64 (-1), .int .i64 l00, .int .i64 l01, .int .i64 l10, .int .i64 l11], .int .i64 0]) ∧ Below w.heap.size w w') := by
 have H := Lib.hid hok
 clear hok
 go_enter Tryz.func126, Tryz.ntmps126
 go_wp2_with fail
 refine (check_any b0 b1 l00 l01 l10 l11 0 0 0 _).mono ?_
 rintro e w1 ⟨c, rfl, hc, rfl⟩
 obtain rfl : c = 0 := hc.2 ⟨H.out, by unfold ArgsOk; omega⟩
 clear hc
 go_wp2
 go_returns
 exact ⟨rfl, by go_grown⟩
theorem Move_miss_0 (b0 b1 l00 l01 l10 l11 : Int) (w : World) (hok : OkO b0 b1 l00 l01 l10 l11) (h : (b0 == 1) = false) :
  Calls Tryz.prog 126 #[.agg #[.int .i64 b0, .int .i64 b1, .int .i64 l00, .int .i64 l01, .int .i64 l10, .int .i64 l11], .int .i64 0] w (fun e w' => e = .returned (.tuple #[.agg #[.int .i64 b0, .int .i64 (-1), .int .i64 l00, .int .i64 l01, .int .i64 l10, .int .i64 l11], .int .i64 0]) ∧ Below w.heap.size w w') := by
 have H := Lib.hid hok
 clear hok
 go_enter Tryz.func126, Tryz.ntmps126
 go_wp2_with fail
 refine (check_any b0 b1 l00 l01 l10 l11 0 0 0 _).mono ?_
 rintro e w1 ⟨c, rfl, hc, rfl⟩
 obtain rfl : c = 0 := hc.2 ⟨H.out, by unfold ArgsOk; omega⟩
 clear hc
 go_wp2
 go_returns
 exact ⟨rfl, by go_grown⟩
theorem Move_hit_1 (b0 b1 l00 l01 l10 l11 : Int) (w : World) (hok : OkO b0 b1 l00 l01 l10 l11) (h : (b0 == 0) = true) :
  Calls Tryz.prog 126 #[.agg #[.int .i64 b0, .int .i64 b1, .int .i64 l00, .int .i64 l01, .int .i64 l10, .int .i64 l11], .int .i64 1] w (fun e w' => e = .returned (.tuple #[.agg #[.int .i64 (-1), .int .i64 (-1), .int .i64 l00, .int .i64 l01, .int .i64 l10, .int .i64 l11], .int .i64 0]) ∧ Below w.heap.size w w') := by
 have H := Lib.hid hok
 clear hok
 go_enter Tryz.func126, Tryz.ntmps126
 go_wp2_with fail
 refine (check_any b0 b1 l00 l01 l10 l11 0 1 0 _).mono ?_
 rintro e w1 ⟨c, rfl, hc, rfl⟩
 obtain rfl : c = 0 := hc.2 ⟨H.out, by unfold ArgsOk; omega⟩
 clear hc
 go_wp2
 go_returns
 exact ⟨rfl, by go_grown⟩
theorem Move_miss_1 (b0 b1 l00 l01 l10 l11 : Int) (w : World) (hok : OkO b0 b1 l00 l01 l10 l11) (h : (b0 == 0) = false) :
  Calls Tryz.prog 126 #[.agg #[.int .i64 b0, .int .i64 b1, .int .i64 l00, .int .i64 l01, .int .i64 l10, .int .i64 l11], .int .i64 1] w (fun e w' => e = .returned (.tuple #[.agg #[.int .i64 b0, .int .i64 (-1), .int .i64 l00, .int .i64 l01, .int .i64 l10, .int .i64 l11], .int .i64 0]) ∧ Below w.heap.size w w') := by
 have H := Lib.hid hok
 clear hok
 go_enter Tryz.func126, Tryz.ntmps126
 go_wp2_with fail
 refine (check_any b0 b1 l00 l01 l10 l11 0 1 0 _).mono ?_
 rintro e w1 ⟨c, rfl, hc, rfl⟩
 obtain rfl : c = 0 := hc.2 ⟨H.out, by unfold ArgsOk; omega⟩
 clear hc
 go_wp2
 go_returns
 exact ⟨rfl, by go_grown⟩
end Go.Proofs.YtnodagljaoonjaaGreatDoor.off
