/- The contracts of offer.Make, offer.open, offer.Decline, offer.Accept, offer.Move and offer.Back. -/
import Derived.Test.YtjdnhhddjnlgiaaOffMake
namespace Go.Proofs.Ytjdnhhddjnlgiaa
open Go.ChangeShapes Go.WideShapes Go.ChangeAt Go.RowKit
set_option linter.unusedVariables false


set_option maxHeartbeats 1000000 in
theorem Make_bad (b0 b1 l00 l01 l10 l11 k p n : Int) (w : World) (h : ¬ (OkO b0 b1 l00 l01 l10 l11 ∧ ArgsOk k p n)) :
    Calls Try.prog 6 #[.agg #[.int .i64 b0, .int .i64 b1, .int .i64 l00, .int .i64 l01, .int .i64 l10, .int .i64 l11], .int .i64 k, .int .i64 p, .int .i64 n] w (fun e w' => ∃ c : Int, c ≠ 0 ∧ e = .returned (.tuple #[.agg #[.int .i64 0, .int .i64 0, .int .i64 0, .int .i64 0, .int .i64 0, .int .i64 0], .int .i64 c]) ∧ Below w.heap.size w w') := by
  have H := Lib.hid h
  clear h
  go_enter Try.func6, Try.ntmps6
  go_wp2_with fail
  refine (check_any b0 b1 l00 l01 l10 l11 k p n _).mono ?_
  rintro e w1 ⟨c, rfl, hc, rfl⟩
  have h1 : (c != 0) = true := by
    rw [bne_iff_ne]; intro h0; exact H.out (hc.1 h0)
  clear hc
  go_wp2
  go_returns
  exact ⟨c, by simpa using h1, rfl, by go_grown⟩

set_option maxHeartbeats 1000000 in
theorem Make_twice_00 (b0 b1 l00 l01 l10 l11 n : Int) (w : World) (hok : OkO b0 b1 l00 l01 l10 l11) (hn0 : 0 ≤ n) (hn1 : n ≤ 400) (h : 0 ≤ b0) :
    Calls Try.prog 6 #[.agg #[.int .i64 b0, .int .i64 b1, .int .i64 l00, .int .i64 l01, .int .i64 l10, .int .i64 l11], .int .i64 0, .int .i64 0, .int .i64 n] w (fun e w' => e = .returned (.tuple #[.agg #[.int .i64 0, .int .i64 0, .int .i64 0, .int .i64 0, .int .i64 0, .int .i64 0], .int .i64 7]) ∧ Below w.heap.size w w') := by
  have H := Lib.hid hok
  clear hok
  go_enter Try.func6, Try.ntmps6
  go_wp2_with fail
  refine (check_any b0 b1 l00 l01 l10 l11 0 0 n _).mono ?_
  rintro e w1 ⟨c, rfl, hc, rfl⟩
  obtain rfl : c = 0 := hc.2 ⟨H.out, by unfold ArgsOk; omega⟩
  clear hc
  go_wp2
  go_returns
  exact ⟨rfl, by go_grown⟩

set_option maxHeartbeats 1000000 in
theorem Make_time_00 (b0 b1 l00 l01 l10 l11 n : Int) (w : World) (hok : OkO b0 b1 l00 l01 l10 l11) (hn0 : 0 ≤ n) (hn1 : n ≤ 400) (h : b0 < 0) (h2 : (l00 == n) = true) :
    Calls Try.prog 6 #[.agg #[.int .i64 b0, .int .i64 b1, .int .i64 l00, .int .i64 l01, .int .i64 l10, .int .i64 l11], .int .i64 0, .int .i64 0, .int .i64 n] w (fun e w' => e = .returned (.tuple #[.agg #[.int .i64 0, .int .i64 0, .int .i64 0, .int .i64 0, .int .i64 0, .int .i64 0], .int .i64 11]) ∧ Below w.heap.size w w') := by
  have H := Lib.hid hok
  clear hok
  go_enter Try.func6, Try.ntmps6
  go_wp2_with fail
  refine (check_any b0 b1 l00 l01 l10 l11 0 0 n _).mono ?_
  rintro e w1 ⟨c, rfl, hc, rfl⟩
  obtain rfl : c = 0 := hc.2 ⟨H.out, by unfold ArgsOk; omega⟩
  clear hc
  go_wp2
  go_returns
  exact ⟨rfl, by go_grown⟩

set_option maxHeartbeats 1000000 in
theorem Make_ok_00 (b0 b1 l00 l01 l10 l11 n : Int) (w : World) (hok : OkO b0 b1 l00 l01 l10 l11) (hn0 : 0 ≤ n) (hn1 : n ≤ 400) (h : b0 < 0) (h2 : (l00 == n) = false) :
    Calls Try.prog 6 #[.agg #[.int .i64 b0, .int .i64 b1, .int .i64 l00, .int .i64 l01, .int .i64 l10, .int .i64 l11], .int .i64 0, .int .i64 0, .int .i64 n] w (fun e w' => e = .returned (.tuple #[.agg #[.int .i64 0, .int .i64 b1, .int .i64 n, .int .i64 l01, .int .i64 l10, .int .i64 l11], .int .i64 0]) ∧ Below w.heap.size w w') := by
  have H := Lib.hid hok
  clear hok
  go_enter Try.func6, Try.ntmps6
  go_wp2_with fail
  refine (check_any b0 b1 l00 l01 l10 l11 0 0 n _).mono ?_
  rintro e w1 ⟨c, rfl, hc, rfl⟩
  obtain rfl : c = 0 := hc.2 ⟨H.out, by unfold ArgsOk; omega⟩
  clear hc
  go_wp2
  go_region
  all_goals (go_wp2; go_returns; exact ⟨rfl, by go_grown⟩)

set_option maxHeartbeats 1000000 in
theorem Make_twice_01 (b0 b1 l00 l01 l10 l11 n : Int) (w : World) (hok : OkO b0 b1 l00 l01 l10 l11) (hn0 : 0 ≤ n) (hn1 : n ≤ 400) (h : 0 ≤ b0) :
    Calls Try.prog 6 #[.agg #[.int .i64 b0, .int .i64 b1, .int .i64 l00, .int .i64 l01, .int .i64 l10, .int .i64 l11], .int .i64 0, .int .i64 1, .int .i64 n] w (fun e w' => e = .returned (.tuple #[.agg #[.int .i64 0, .int .i64 0, .int .i64 0, .int .i64 0, .int .i64 0, .int .i64 0], .int .i64 7]) ∧ Below w.heap.size w w') := by
  have H := Lib.hid hok
  clear hok
  go_enter Try.func6, Try.ntmps6
  go_wp2_with fail
  refine (check_any b0 b1 l00 l01 l10 l11 0 1 n _).mono ?_
  rintro e w1 ⟨c, rfl, hc, rfl⟩
  obtain rfl : c = 0 := hc.2 ⟨H.out, by unfold ArgsOk; omega⟩
  clear hc
  go_wp2
  go_returns
  exact ⟨rfl, by go_grown⟩

set_option maxHeartbeats 1000000 in
theorem Make_time_01 (b0 b1 l00 l01 l10 l11 n : Int) (w : World) (hok : OkO b0 b1 l00 l01 l10 l11) (hn0 : 0 ≤ n) (hn1 : n ≤ 400) (h : b0 < 0) (h2 : (l01 == n) = true) :
    Calls Try.prog 6 #[.agg #[.int .i64 b0, .int .i64 b1, .int .i64 l00, .int .i64 l01, .int .i64 l10, .int .i64 l11], .int .i64 0, .int .i64 1, .int .i64 n] w (fun e w' => e = .returned (.tuple #[.agg #[.int .i64 0, .int .i64 0, .int .i64 0, .int .i64 0, .int .i64 0, .int .i64 0], .int .i64 11]) ∧ Below w.heap.size w w') := by
  have H := Lib.hid hok
  clear hok
  go_enter Try.func6, Try.ntmps6
  go_wp2_with fail
  refine (check_any b0 b1 l00 l01 l10 l11 0 1 n _).mono ?_
  rintro e w1 ⟨c, rfl, hc, rfl⟩
  obtain rfl : c = 0 := hc.2 ⟨H.out, by unfold ArgsOk; omega⟩
  clear hc
  go_wp2
  go_returns
  exact ⟨rfl, by go_grown⟩

set_option maxHeartbeats 1000000 in
theorem Make_ok_01 (b0 b1 l00 l01 l10 l11 n : Int) (w : World) (hok : OkO b0 b1 l00 l01 l10 l11) (hn0 : 0 ≤ n) (hn1 : n ≤ 400) (h : b0 < 0) (h2 : (l01 == n) = false) :
    Calls Try.prog 6 #[.agg #[.int .i64 b0, .int .i64 b1, .int .i64 l00, .int .i64 l01, .int .i64 l10, .int .i64 l11], .int .i64 0, .int .i64 1, .int .i64 n] w (fun e w' => e = .returned (.tuple #[.agg #[.int .i64 1, .int .i64 b1, .int .i64 l00, .int .i64 n, .int .i64 l10, .int .i64 l11], .int .i64 0]) ∧ Below w.heap.size w w') := by
  have H := Lib.hid hok
  clear hok
  go_enter Try.func6, Try.ntmps6
  go_wp2_with fail
  refine (check_any b0 b1 l00 l01 l10 l11 0 1 n _).mono ?_
  rintro e w1 ⟨c, rfl, hc, rfl⟩
  obtain rfl : c = 0 := hc.2 ⟨H.out, by unfold ArgsOk; omega⟩
  clear hc
  go_wp2
  go_region
  all_goals (go_wp2; go_returns; exact ⟨rfl, by go_grown⟩)

set_option maxHeartbeats 1000000 in
theorem Make_twice_10 (b0 b1 l00 l01 l10 l11 n : Int) (w : World) (hok : OkO b0 b1 l00 l01 l10 l11) (hn0 : 0 ≤ n) (hn1 : n ≤ 400) (h : 0 ≤ b1) :
    Calls Try.prog 6 #[.agg #[.int .i64 b0, .int .i64 b1, .int .i64 l00, .int .i64 l01, .int .i64 l10, .int .i64 l11], .int .i64 1, .int .i64 0, .int .i64 n] w (fun e w' => e = .returned (.tuple #[.agg #[.int .i64 0, .int .i64 0, .int .i64 0, .int .i64 0, .int .i64 0, .int .i64 0], .int .i64 7]) ∧ Below w.heap.size w w') := by
  have H := Lib.hid hok
  clear hok
  go_enter Try.func6, Try.ntmps6
  go_wp2_with fail
  refine (check_any b0 b1 l00 l01 l10 l11 1 0 n _).mono ?_
  rintro e w1 ⟨c, rfl, hc, rfl⟩
  obtain rfl : c = 0 := hc.2 ⟨H.out, by unfold ArgsOk; omega⟩
  clear hc
  go_wp2
  go_returns
  exact ⟨rfl, by go_grown⟩

set_option maxHeartbeats 1000000 in
theorem Make_time_10 (b0 b1 l00 l01 l10 l11 n : Int) (w : World) (hok : OkO b0 b1 l00 l01 l10 l11) (hn0 : 0 ≤ n) (hn1 : n ≤ 400) (h : b1 < 0) (h2 : (l10 == n) = true) :
    Calls Try.prog 6 #[.agg #[.int .i64 b0, .int .i64 b1, .int .i64 l00, .int .i64 l01, .int .i64 l10, .int .i64 l11], .int .i64 1, .int .i64 0, .int .i64 n] w (fun e w' => e = .returned (.tuple #[.agg #[.int .i64 0, .int .i64 0, .int .i64 0, .int .i64 0, .int .i64 0, .int .i64 0], .int .i64 11]) ∧ Below w.heap.size w w') := by
  have H := Lib.hid hok
  clear hok
  go_enter Try.func6, Try.ntmps6
  go_wp2_with fail
  refine (check_any b0 b1 l00 l01 l10 l11 1 0 n _).mono ?_
  rintro e w1 ⟨c, rfl, hc, rfl⟩
  obtain rfl : c = 0 := hc.2 ⟨H.out, by unfold ArgsOk; omega⟩
  clear hc
  go_wp2
  go_returns
  exact ⟨rfl, by go_grown⟩

set_option maxHeartbeats 1000000 in
theorem Make_none_10 (b0 b1 l00 l01 l10 l11 n : Int) (w : World) (hok : OkO b0 b1 l00 l01 l10 l11) (hn0 : 0 ≤ n) (hn1 : n ≤ 400) (h : b1 < 0) (h2 : (l10 == n) = false) (h3 : (plies 0 n == 0) = true) :
    Calls Try.prog 6 #[.agg #[.int .i64 b0, .int .i64 b1, .int .i64 l00, .int .i64 l01, .int .i64 l10, .int .i64 l11], .int .i64 1, .int .i64 0, .int .i64 n] w (fun e w' => e = .returned (.tuple #[.agg #[.int .i64 0, .int .i64 0, .int .i64 0, .int .i64 0, .int .i64 0, .int .i64 0], .int .i64 8]) ∧ Below w.heap.size w w') := by
  have H := Lib.hid hok
  clear hok
  go_enter Try.func6, Try.ntmps6
  go_wp2_with fail
  refine (check_any b0 b1 l00 l01 l10 l11 1 0 n _).mono ?_
  rintro e w1 ⟨c, rfl, hc, rfl⟩
  obtain rfl : c = 0 := hc.2 ⟨H.out, by unfold ArgsOk; omega⟩
  clear hc
  go_wp2_with (go_at_call 13; refine (Plies_any _ _ _ (by omega) (by omega) (by omega)).mono ?_; rintro e w' ⟨rfl, rfl⟩)
  go_returns
  exact ⟨rfl, by go_grown⟩

set_option maxHeartbeats 1000000 in
theorem Make_ok_10 (b0 b1 l00 l01 l10 l11 n : Int) (w : World) (hok : OkO b0 b1 l00 l01 l10 l11) (hn0 : 0 ≤ n) (hn1 : n ≤ 400) (h : b1 < 0) (h2 : (l10 == n) = false) (h3 : (plies 0 n == 0) = false) :
    Calls Try.prog 6 #[.agg #[.int .i64 b0, .int .i64 b1, .int .i64 l00, .int .i64 l01, .int .i64 l10, .int .i64 l11], .int .i64 1, .int .i64 0, .int .i64 n] w (fun e w' => e = .returned (.tuple #[.agg #[.int .i64 b0, .int .i64 0, .int .i64 l00, .int .i64 l01, .int .i64 n, .int .i64 l11], .int .i64 0]) ∧ Below w.heap.size w w') := by
  have H := Lib.hid hok
  clear hok
  go_enter Try.func6, Try.ntmps6
  go_wp2_with fail
  refine (check_any b0 b1 l00 l01 l10 l11 1 0 n _).mono ?_
  rintro e w1 ⟨c, rfl, hc, rfl⟩
  obtain rfl : c = 0 := hc.2 ⟨H.out, by unfold ArgsOk; omega⟩
  clear hc
  go_wp2_with (go_at_call 13; refine (Plies_any _ _ _ (by omega) (by omega) (by omega)).mono ?_; rintro e w' ⟨rfl, rfl⟩)
  go_region
  all_goals (go_wp2; go_returns; exact ⟨rfl, by go_grown⟩)

set_option maxHeartbeats 1000000 in
theorem Make_twice_11 (b0 b1 l00 l01 l10 l11 n : Int) (w : World) (hok : OkO b0 b1 l00 l01 l10 l11) (hn0 : 0 ≤ n) (hn1 : n ≤ 400) (h : 0 ≤ b1) :
    Calls Try.prog 6 #[.agg #[.int .i64 b0, .int .i64 b1, .int .i64 l00, .int .i64 l01, .int .i64 l10, .int .i64 l11], .int .i64 1, .int .i64 1, .int .i64 n] w (fun e w' => e = .returned (.tuple #[.agg #[.int .i64 0, .int .i64 0, .int .i64 0, .int .i64 0, .int .i64 0, .int .i64 0], .int .i64 7]) ∧ Below w.heap.size w w') := by
  have H := Lib.hid hok
  clear hok
  go_enter Try.func6, Try.ntmps6
  go_wp2_with fail
  refine (check_any b0 b1 l00 l01 l10 l11 1 1 n _).mono ?_
  rintro e w1 ⟨c, rfl, hc, rfl⟩
  obtain rfl : c = 0 := hc.2 ⟨H.out, by unfold ArgsOk; omega⟩
  clear hc
  go_wp2
  go_returns
  exact ⟨rfl, by go_grown⟩

set_option maxHeartbeats 1000000 in
theorem Make_time_11 (b0 b1 l00 l01 l10 l11 n : Int) (w : World) (hok : OkO b0 b1 l00 l01 l10 l11) (hn0 : 0 ≤ n) (hn1 : n ≤ 400) (h : b1 < 0) (h2 : (l11 == n) = true) :
    Calls Try.prog 6 #[.agg #[.int .i64 b0, .int .i64 b1, .int .i64 l00, .int .i64 l01, .int .i64 l10, .int .i64 l11], .int .i64 1, .int .i64 1, .int .i64 n] w (fun e w' => e = .returned (.tuple #[.agg #[.int .i64 0, .int .i64 0, .int .i64 0, .int .i64 0, .int .i64 0, .int .i64 0], .int .i64 11]) ∧ Below w.heap.size w w') := by
  have H := Lib.hid hok
  clear hok
  go_enter Try.func6, Try.ntmps6
  go_wp2_with fail
  refine (check_any b0 b1 l00 l01 l10 l11 1 1 n _).mono ?_
  rintro e w1 ⟨c, rfl, hc, rfl⟩
  obtain rfl : c = 0 := hc.2 ⟨H.out, by unfold ArgsOk; omega⟩
  clear hc
  go_wp2
  go_returns
  exact ⟨rfl, by go_grown⟩

set_option maxHeartbeats 1000000 in
theorem Make_none_11 (b0 b1 l00 l01 l10 l11 n : Int) (w : World) (hok : OkO b0 b1 l00 l01 l10 l11) (hn0 : 0 ≤ n) (hn1 : n ≤ 400) (h : b1 < 0) (h2 : (l11 == n) = false) (h3 : (plies 1 n == 0) = true) :
    Calls Try.prog 6 #[.agg #[.int .i64 b0, .int .i64 b1, .int .i64 l00, .int .i64 l01, .int .i64 l10, .int .i64 l11], .int .i64 1, .int .i64 1, .int .i64 n] w (fun e w' => e = .returned (.tuple #[.agg #[.int .i64 0, .int .i64 0, .int .i64 0, .int .i64 0, .int .i64 0, .int .i64 0], .int .i64 8]) ∧ Below w.heap.size w w') := by
  have H := Lib.hid hok
  clear hok
  go_enter Try.func6, Try.ntmps6
  go_wp2_with fail
  refine (check_any b0 b1 l00 l01 l10 l11 1 1 n _).mono ?_
  rintro e w1 ⟨c, rfl, hc, rfl⟩
  obtain rfl : c = 0 := hc.2 ⟨H.out, by unfold ArgsOk; omega⟩
  clear hc
  go_wp2_with (go_at_call 13; refine (Plies_any _ _ _ (by omega) (by omega) (by omega)).mono ?_; rintro e w' ⟨rfl, rfl⟩)
  go_returns
  exact ⟨rfl, by go_grown⟩

set_option maxHeartbeats 1000000 in
theorem Make_ok_11 (b0 b1 l00 l01 l10 l11 n : Int) (w : World) (hok : OkO b0 b1 l00 l01 l10 l11) (hn0 : 0 ≤ n) (hn1 : n ≤ 400) (h : b1 < 0) (h2 : (l11 == n) = false) (h3 : (plies 1 n == 0) = false) :
    Calls Try.prog 6 #[.agg #[.int .i64 b0, .int .i64 b1, .int .i64 l00, .int .i64 l01, .int .i64 l10, .int .i64 l11], .int .i64 1, .int .i64 1, .int .i64 n] w (fun e w' => e = .returned (.tuple #[.agg #[.int .i64 b0, .int .i64 1, .int .i64 l00, .int .i64 l01, .int .i64 l10, .int .i64 n], .int .i64 0]) ∧ Below w.heap.size w w') := by
  have H := Lib.hid hok
  clear hok
  go_enter Try.func6, Try.ntmps6
  go_wp2_with fail
  refine (check_any b0 b1 l00 l01 l10 l11 1 1 n _).mono ?_
  rintro e w1 ⟨c, rfl, hc, rfl⟩
  obtain rfl : c = 0 := hc.2 ⟨H.out, by unfold ArgsOk; omega⟩
  clear hc
  go_wp2_with (go_at_call 13; refine (Plies_any _ _ _ (by omega) (by omega) (by omega)).mono ?_; rintro e w' ⟨rfl, rfl⟩)
  go_region
  all_goals (go_wp2; go_returns; exact ⟨rfl, by go_grown⟩)

set_option maxHeartbeats 1000000 in
theorem open_ok_00 (b0 b1 l00 l01 l10 l11 n : Int) (w : World) (hok : OkO b0 b1 l00 l01 l10 l11) (hn0 : 0 ≤ n) (hn1 : n ≤ 400) (h : (b0 != 1) = false) :
    Calls Try.prog 14 #[.agg #[.int .i64 b0, .int .i64 b1, .int .i64 l00, .int .i64 l01, .int .i64 l10, .int .i64 l11], .int .i64 0, .int .i64 0, .int .i64 n] w (fun e w' => e = .returned (.int .i64 0) ∧ ((w.alloc (.cells #[.int .i64 b0, .int .i64 b1, .int .i64 l00, .int .i64 l01, .int .i64 l10, .int .i64 l11] 25)).alloc (.cells #[.int .i64 b0, .int .i64 b1, .int .i64 l00, .int .i64 l01, .int .i64 l10, .int .i64 l11] 25)).alloc (.cells #[.int .i64 b0, .int .i64 b1, .int .i64 l00, .int .i64 l01, .int .i64 l10, .int .i64 l11] 25) = w') := by
  have H := Lib.hid hok
  clear hok
  go_enter Try.func14, Try.ntmps14
  go_wp2_with fail
  refine (check_any b0 b1 l00 l01 l10 l11 0 0 n _).mono ?_
  rintro e w1 ⟨c, rfl, hc, rfl⟩
  obtain rfl : c = 0 := hc.2 ⟨H.out, by unfold ArgsOk; omega⟩
  clear hc
  go_wp2
  go_ret
  exact ⟨rfl, rfl⟩

set_option maxHeartbeats 1000000 in
theorem open_state_00 (b0 b1 l00 l01 l10 l11 n : Int) (w : World) (hok : OkO b0 b1 l00 l01 l10 l11) (hn0 : 0 ≤ n) (hn1 : n ≤ 400) (h : (b0 != 1) = true) :
    Calls Try.prog 14 #[.agg #[.int .i64 b0, .int .i64 b1, .int .i64 l00, .int .i64 l01, .int .i64 l10, .int .i64 l11], .int .i64 0, .int .i64 0, .int .i64 n] w (fun e w' => e = .returned (.int .i64 10) ∧ ((w.alloc (.cells #[.int .i64 b0, .int .i64 b1, .int .i64 l00, .int .i64 l01, .int .i64 l10, .int .i64 l11] 25)).alloc (.cells #[.int .i64 b0, .int .i64 b1, .int .i64 l00, .int .i64 l01, .int .i64 l10, .int .i64 l11] 25)).alloc (.cells #[.int .i64 b0, .int .i64 b1, .int .i64 l00, .int .i64 l01, .int .i64 l10, .int .i64 l11] 25) = w') := by
  have H := Lib.hid hok
  clear hok
  go_enter Try.func14, Try.ntmps14
  go_wp2_with fail
  refine (check_any b0 b1 l00 l01 l10 l11 0 0 n _).mono ?_
  rintro e w1 ⟨c, rfl, hc, rfl⟩
  obtain rfl : c = 0 := hc.2 ⟨H.out, by unfold ArgsOk; omega⟩
  clear hc
  go_wp2
  go_ret
  exact ⟨rfl, rfl⟩

set_option maxHeartbeats 1000000 in
theorem Decline_ok_00 (b0 b1 l00 l01 l10 l11 n : Int) (w : World) (hok : OkO b0 b1 l00 l01 l10 l11) (hn0 : 0 ≤ n) (hn1 : n ≤ 400) (h : (b0 != 1) = false) :
    Calls Try.prog 7 #[.agg #[.int .i64 b0, .int .i64 b1, .int .i64 l00, .int .i64 l01, .int .i64 l10, .int .i64 l11], .int .i64 0, .int .i64 0, .int .i64 n] w (fun e w' => e = .returned (.tuple #[.agg #[.int .i64 (-1), .int .i64 b1, .int .i64 l00, .int .i64 l01, .int .i64 l10, .int .i64 l11], .int .i64 0]) ∧ Below w.heap.size w w') := by
  have H := Lib.hid hok
  clear hok
  go_enter Try.func7, Try.ntmps7
  go_wp2_with fail
  refine (open_ok_00 b0 b1 l00 l01 l10 l11 n _ H.out hn0 hn1 h).mono ?_
  rintro e w1 ⟨rfl, rfl⟩
  go_wp2
  go_returns
  exact ⟨rfl, by go_grown⟩

set_option maxHeartbeats 1000000 in
theorem Decline_state_00 (b0 b1 l00 l01 l10 l11 n : Int) (w : World) (hok : OkO b0 b1 l00 l01 l10 l11) (hn0 : 0 ≤ n) (hn1 : n ≤ 400) (h : (b0 != 1) = true) :
    Calls Try.prog 7 #[.agg #[.int .i64 b0, .int .i64 b1, .int .i64 l00, .int .i64 l01, .int .i64 l10, .int .i64 l11], .int .i64 0, .int .i64 0, .int .i64 n] w (fun e w' => e = .returned (.tuple #[.agg #[.int .i64 0, .int .i64 0, .int .i64 0, .int .i64 0, .int .i64 0, .int .i64 0], .int .i64 10]) ∧ Below w.heap.size w w') := by
  have H := Lib.hid hok
  clear hok
  go_enter Try.func7, Try.ntmps7
  go_wp2_with fail
  refine (open_state_00 b0 b1 l00 l01 l10 l11 n _ H.out hn0 hn1 h).mono ?_
  rintro e w1 ⟨rfl, rfl⟩
  go_wp2
  go_returns
  exact ⟨rfl, by go_grown⟩

set_option maxHeartbeats 1000000 in
theorem Accept_ok_00 (b0 b1 l00 l01 l10 l11 n : Int) (w : World) (hok : OkO b0 b1 l00 l01 l10 l11) (hn0 : 0 ≤ n) (hn1 : n ≤ 400) (h : (b0 != 1) = false) :
    Calls Try.prog 8 #[.agg #[.int .i64 b0, .int .i64 b1, .int .i64 l00, .int .i64 l01, .int .i64 l10, .int .i64 l11], .int .i64 0, .int .i64 0, .int .i64 n] w (fun e w' => e = .returned (.tuple #[.agg #[.int .i64 (-1), .int .i64 (-1), .int .i64 l00, .int .i64 l01, .int .i64 l10, .int .i64 l11], .int .i64 0]) ∧ Below w.heap.size w w') := by
  have H := Lib.hid hok
  clear hok
  go_enter Try.func8, Try.ntmps8
  go_wp2_with fail
  refine (open_ok_00 b0 b1 l00 l01 l10 l11 n _ H.out hn0 hn1 h).mono ?_
  rintro e w1 ⟨rfl, rfl⟩
  go_wp2
  go_returns
  exact ⟨rfl, by go_grown⟩

set_option maxHeartbeats 1000000 in
theorem open_ok_01 (b0 b1 l00 l01 l10 l11 n : Int) (w : World) (hok : OkO b0 b1 l00 l01 l10 l11) (hn0 : 0 ≤ n) (hn1 : n ≤ 400) (h : (b0 != 0) = false) :
    Calls Try.prog 14 #[.agg #[.int .i64 b0, .int .i64 b1, .int .i64 l00, .int .i64 l01, .int .i64 l10, .int .i64 l11], .int .i64 0, .int .i64 1, .int .i64 n] w (fun e w' => e = .returned (.int .i64 0) ∧ ((w.alloc (.cells #[.int .i64 b0, .int .i64 b1, .int .i64 l00, .int .i64 l01, .int .i64 l10, .int .i64 l11] 25)).alloc (.cells #[.int .i64 b0, .int .i64 b1, .int .i64 l00, .int .i64 l01, .int .i64 l10, .int .i64 l11] 25)).alloc (.cells #[.int .i64 b0, .int .i64 b1, .int .i64 l00, .int .i64 l01, .int .i64 l10, .int .i64 l11] 25) = w') := by
  have H := Lib.hid hok
  clear hok
  go_enter Try.func14, Try.ntmps14
  go_wp2_with fail
  refine (check_any b0 b1 l00 l01 l10 l11 0 1 n _).mono ?_
  rintro e w1 ⟨c, rfl, hc, rfl⟩
  obtain rfl : c = 0 := hc.2 ⟨H.out, by unfold ArgsOk; omega⟩
  clear hc
  go_wp2
  go_ret
  exact ⟨rfl, rfl⟩

set_option maxHeartbeats 1000000 in
theorem open_state_01 (b0 b1 l00 l01 l10 l11 n : Int) (w : World) (hok : OkO b0 b1 l00 l01 l10 l11) (hn0 : 0 ≤ n) (hn1 : n ≤ 400) (h : (b0 != 0) = true) :
    Calls Try.prog 14 #[.agg #[.int .i64 b0, .int .i64 b1, .int .i64 l00, .int .i64 l01, .int .i64 l10, .int .i64 l11], .int .i64 0, .int .i64 1, .int .i64 n] w (fun e w' => e = .returned (.int .i64 10) ∧ ((w.alloc (.cells #[.int .i64 b0, .int .i64 b1, .int .i64 l00, .int .i64 l01, .int .i64 l10, .int .i64 l11] 25)).alloc (.cells #[.int .i64 b0, .int .i64 b1, .int .i64 l00, .int .i64 l01, .int .i64 l10, .int .i64 l11] 25)).alloc (.cells #[.int .i64 b0, .int .i64 b1, .int .i64 l00, .int .i64 l01, .int .i64 l10, .int .i64 l11] 25) = w') := by
  have H := Lib.hid hok
  clear hok
  go_enter Try.func14, Try.ntmps14
  go_wp2_with fail
  refine (check_any b0 b1 l00 l01 l10 l11 0 1 n _).mono ?_
  rintro e w1 ⟨c, rfl, hc, rfl⟩
  obtain rfl : c = 0 := hc.2 ⟨H.out, by unfold ArgsOk; omega⟩
  clear hc
  go_wp2
  go_ret
  exact ⟨rfl, rfl⟩

set_option maxHeartbeats 1000000 in
theorem Decline_ok_01 (b0 b1 l00 l01 l10 l11 n : Int) (w : World) (hok : OkO b0 b1 l00 l01 l10 l11) (hn0 : 0 ≤ n) (hn1 : n ≤ 400) (h : (b0 != 0) = false) :
    Calls Try.prog 7 #[.agg #[.int .i64 b0, .int .i64 b1, .int .i64 l00, .int .i64 l01, .int .i64 l10, .int .i64 l11], .int .i64 0, .int .i64 1, .int .i64 n] w (fun e w' => e = .returned (.tuple #[.agg #[.int .i64 (-1), .int .i64 b1, .int .i64 l00, .int .i64 l01, .int .i64 l10, .int .i64 l11], .int .i64 0]) ∧ Below w.heap.size w w') := by
  have H := Lib.hid hok
  clear hok
  go_enter Try.func7, Try.ntmps7
  go_wp2_with fail
  refine (open_ok_01 b0 b1 l00 l01 l10 l11 n _ H.out hn0 hn1 h).mono ?_
  rintro e w1 ⟨rfl, rfl⟩
  go_wp2
  go_returns
  exact ⟨rfl, by go_grown⟩

set_option maxHeartbeats 1000000 in
theorem Decline_state_01 (b0 b1 l00 l01 l10 l11 n : Int) (w : World) (hok : OkO b0 b1 l00 l01 l10 l11) (hn0 : 0 ≤ n) (hn1 : n ≤ 400) (h : (b0 != 0) = true) :
    Calls Try.prog 7 #[.agg #[.int .i64 b0, .int .i64 b1, .int .i64 l00, .int .i64 l01, .int .i64 l10, .int .i64 l11], .int .i64 0, .int .i64 1, .int .i64 n] w (fun e w' => e = .returned (.tuple #[.agg #[.int .i64 0, .int .i64 0, .int .i64 0, .int .i64 0, .int .i64 0, .int .i64 0], .int .i64 10]) ∧ Below w.heap.size w w') := by
  have H := Lib.hid hok
  clear hok
  go_enter Try.func7, Try.ntmps7
  go_wp2_with fail
  refine (open_state_01 b0 b1 l00 l01 l10 l11 n _ H.out hn0 hn1 h).mono ?_
  rintro e w1 ⟨rfl, rfl⟩
  go_wp2
  go_returns
  exact ⟨rfl, by go_grown⟩

set_option maxHeartbeats 1000000 in
theorem Accept_ok_01 (b0 b1 l00 l01 l10 l11 n : Int) (w : World) (hok : OkO b0 b1 l00 l01 l10 l11) (hn0 : 0 ≤ n) (hn1 : n ≤ 400) (h : (b0 != 0) = false) :
    Calls Try.prog 8 #[.agg #[.int .i64 b0, .int .i64 b1, .int .i64 l00, .int .i64 l01, .int .i64 l10, .int .i64 l11], .int .i64 0, .int .i64 1, .int .i64 n] w (fun e w' => e = .returned (.tuple #[.agg #[.int .i64 (-1), .int .i64 (-1), .int .i64 l00, .int .i64 l01, .int .i64 l10, .int .i64 l11], .int .i64 0]) ∧ Below w.heap.size w w') := by
  have H := Lib.hid hok
  clear hok
  go_enter Try.func8, Try.ntmps8
  go_wp2_with fail
  refine (open_ok_01 b0 b1 l00 l01 l10 l11 n _ H.out hn0 hn1 h).mono ?_
  rintro e w1 ⟨rfl, rfl⟩
  go_wp2
  go_returns
  exact ⟨rfl, by go_grown⟩

set_option maxHeartbeats 1000000 in
theorem open_ok_10 (b0 b1 l00 l01 l10 l11 n : Int) (w : World) (hok : OkO b0 b1 l00 l01 l10 l11) (hn0 : 0 ≤ n) (hn1 : n ≤ 400) (h : (b1 != 1) = false) :
    Calls Try.prog 14 #[.agg #[.int .i64 b0, .int .i64 b1, .int .i64 l00, .int .i64 l01, .int .i64 l10, .int .i64 l11], .int .i64 1, .int .i64 0, .int .i64 n] w (fun e w' => e = .returned (.int .i64 0) ∧ ((w.alloc (.cells #[.int .i64 b0, .int .i64 b1, .int .i64 l00, .int .i64 l01, .int .i64 l10, .int .i64 l11] 25)).alloc (.cells #[.int .i64 b0, .int .i64 b1, .int .i64 l00, .int .i64 l01, .int .i64 l10, .int .i64 l11] 25)).alloc (.cells #[.int .i64 b0, .int .i64 b1, .int .i64 l00, .int .i64 l01, .int .i64 l10, .int .i64 l11] 25) = w') := by
  have H := Lib.hid hok
  clear hok
  go_enter Try.func14, Try.ntmps14
  go_wp2_with fail
  refine (check_any b0 b1 l00 l01 l10 l11 1 0 n _).mono ?_
  rintro e w1 ⟨c, rfl, hc, rfl⟩
  obtain rfl : c = 0 := hc.2 ⟨H.out, by unfold ArgsOk; omega⟩
  clear hc
  go_wp2
  go_ret
  exact ⟨rfl, rfl⟩

set_option maxHeartbeats 1000000 in
theorem open_state_10 (b0 b1 l00 l01 l10 l11 n : Int) (w : World) (hok : OkO b0 b1 l00 l01 l10 l11) (hn0 : 0 ≤ n) (hn1 : n ≤ 400) (h : (b1 != 1) = true) :
    Calls Try.prog 14 #[.agg #[.int .i64 b0, .int .i64 b1, .int .i64 l00, .int .i64 l01, .int .i64 l10, .int .i64 l11], .int .i64 1, .int .i64 0, .int .i64 n] w (fun e w' => e = .returned (.int .i64 10) ∧ ((w.alloc (.cells #[.int .i64 b0, .int .i64 b1, .int .i64 l00, .int .i64 l01, .int .i64 l10, .int .i64 l11] 25)).alloc (.cells #[.int .i64 b0, .int .i64 b1, .int .i64 l00, .int .i64 l01, .int .i64 l10, .int .i64 l11] 25)).alloc (.cells #[.int .i64 b0, .int .i64 b1, .int .i64 l00, .int .i64 l01, .int .i64 l10, .int .i64 l11] 25) = w') := by
  have H := Lib.hid hok
  clear hok
  go_enter Try.func14, Try.ntmps14
  go_wp2_with fail
  refine (check_any b0 b1 l00 l01 l10 l11 1 0 n _).mono ?_
  rintro e w1 ⟨c, rfl, hc, rfl⟩
  obtain rfl : c = 0 := hc.2 ⟨H.out, by unfold ArgsOk; omega⟩
  clear hc
  go_wp2
  go_ret
  exact ⟨rfl, rfl⟩

set_option maxHeartbeats 1000000 in
theorem Decline_ok_10 (b0 b1 l00 l01 l10 l11 n : Int) (w : World) (hok : OkO b0 b1 l00 l01 l10 l11) (hn0 : 0 ≤ n) (hn1 : n ≤ 400) (h : (b1 != 1) = false) :
    Calls Try.prog 7 #[.agg #[.int .i64 b0, .int .i64 b1, .int .i64 l00, .int .i64 l01, .int .i64 l10, .int .i64 l11], .int .i64 1, .int .i64 0, .int .i64 n] w (fun e w' => e = .returned (.tuple #[.agg #[.int .i64 b0, .int .i64 (-1), .int .i64 l00, .int .i64 l01, .int .i64 l10, .int .i64 l11], .int .i64 0]) ∧ Below w.heap.size w w') := by
  have H := Lib.hid hok
  clear hok
  go_enter Try.func7, Try.ntmps7
  go_wp2_with fail
  refine (open_ok_10 b0 b1 l00 l01 l10 l11 n _ H.out hn0 hn1 h).mono ?_
  rintro e w1 ⟨rfl, rfl⟩
  go_wp2
  go_returns
  exact ⟨rfl, by go_grown⟩

set_option maxHeartbeats 1000000 in
theorem Decline_state_10 (b0 b1 l00 l01 l10 l11 n : Int) (w : World) (hok : OkO b0 b1 l00 l01 l10 l11) (hn0 : 0 ≤ n) (hn1 : n ≤ 400) (h : (b1 != 1) = true) :
    Calls Try.prog 7 #[.agg #[.int .i64 b0, .int .i64 b1, .int .i64 l00, .int .i64 l01, .int .i64 l10, .int .i64 l11], .int .i64 1, .int .i64 0, .int .i64 n] w (fun e w' => e = .returned (.tuple #[.agg #[.int .i64 0, .int .i64 0, .int .i64 0, .int .i64 0, .int .i64 0, .int .i64 0], .int .i64 10]) ∧ Below w.heap.size w w') := by
  have H := Lib.hid hok
  clear hok
  go_enter Try.func7, Try.ntmps7
  go_wp2_with fail
  refine (open_state_10 b0 b1 l00 l01 l10 l11 n _ H.out hn0 hn1 h).mono ?_
  rintro e w1 ⟨rfl, rfl⟩
  go_wp2
  go_returns
  exact ⟨rfl, by go_grown⟩

set_option maxHeartbeats 1000000 in
theorem open_ok_11 (b0 b1 l00 l01 l10 l11 n : Int) (w : World) (hok : OkO b0 b1 l00 l01 l10 l11) (hn0 : 0 ≤ n) (hn1 : n ≤ 400) (h : (b1 != 0) = false) :
    Calls Try.prog 14 #[.agg #[.int .i64 b0, .int .i64 b1, .int .i64 l00, .int .i64 l01, .int .i64 l10, .int .i64 l11], .int .i64 1, .int .i64 1, .int .i64 n] w (fun e w' => e = .returned (.int .i64 0) ∧ ((w.alloc (.cells #[.int .i64 b0, .int .i64 b1, .int .i64 l00, .int .i64 l01, .int .i64 l10, .int .i64 l11] 25)).alloc (.cells #[.int .i64 b0, .int .i64 b1, .int .i64 l00, .int .i64 l01, .int .i64 l10, .int .i64 l11] 25)).alloc (.cells #[.int .i64 b0, .int .i64 b1, .int .i64 l00, .int .i64 l01, .int .i64 l10, .int .i64 l11] 25) = w') := by
  have H := Lib.hid hok
  clear hok
  go_enter Try.func14, Try.ntmps14
  go_wp2_with fail
  refine (check_any b0 b1 l00 l01 l10 l11 1 1 n _).mono ?_
  rintro e w1 ⟨c, rfl, hc, rfl⟩
  obtain rfl : c = 0 := hc.2 ⟨H.out, by unfold ArgsOk; omega⟩
  clear hc
  go_wp2
  go_ret
  exact ⟨rfl, rfl⟩

set_option maxHeartbeats 1000000 in
theorem open_state_11 (b0 b1 l00 l01 l10 l11 n : Int) (w : World) (hok : OkO b0 b1 l00 l01 l10 l11) (hn0 : 0 ≤ n) (hn1 : n ≤ 400) (h : (b1 != 0) = true) :
    Calls Try.prog 14 #[.agg #[.int .i64 b0, .int .i64 b1, .int .i64 l00, .int .i64 l01, .int .i64 l10, .int .i64 l11], .int .i64 1, .int .i64 1, .int .i64 n] w (fun e w' => e = .returned (.int .i64 10) ∧ ((w.alloc (.cells #[.int .i64 b0, .int .i64 b1, .int .i64 l00, .int .i64 l01, .int .i64 l10, .int .i64 l11] 25)).alloc (.cells #[.int .i64 b0, .int .i64 b1, .int .i64 l00, .int .i64 l01, .int .i64 l10, .int .i64 l11] 25)).alloc (.cells #[.int .i64 b0, .int .i64 b1, .int .i64 l00, .int .i64 l01, .int .i64 l10, .int .i64 l11] 25) = w') := by
  have H := Lib.hid hok
  clear hok
  go_enter Try.func14, Try.ntmps14
  go_wp2_with fail
  refine (check_any b0 b1 l00 l01 l10 l11 1 1 n _).mono ?_
  rintro e w1 ⟨c, rfl, hc, rfl⟩
  obtain rfl : c = 0 := hc.2 ⟨H.out, by unfold ArgsOk; omega⟩
  clear hc
  go_wp2
  go_ret
  exact ⟨rfl, rfl⟩

set_option maxHeartbeats 1000000 in
theorem Decline_ok_11 (b0 b1 l00 l01 l10 l11 n : Int) (w : World) (hok : OkO b0 b1 l00 l01 l10 l11) (hn0 : 0 ≤ n) (hn1 : n ≤ 400) (h : (b1 != 0) = false) :
    Calls Try.prog 7 #[.agg #[.int .i64 b0, .int .i64 b1, .int .i64 l00, .int .i64 l01, .int .i64 l10, .int .i64 l11], .int .i64 1, .int .i64 1, .int .i64 n] w (fun e w' => e = .returned (.tuple #[.agg #[.int .i64 b0, .int .i64 (-1), .int .i64 l00, .int .i64 l01, .int .i64 l10, .int .i64 l11], .int .i64 0]) ∧ Below w.heap.size w w') := by
  have H := Lib.hid hok
  clear hok
  go_enter Try.func7, Try.ntmps7
  go_wp2_with fail
  refine (open_ok_11 b0 b1 l00 l01 l10 l11 n _ H.out hn0 hn1 h).mono ?_
  rintro e w1 ⟨rfl, rfl⟩
  go_wp2
  go_returns
  exact ⟨rfl, by go_grown⟩

set_option maxHeartbeats 1000000 in
theorem Decline_state_11 (b0 b1 l00 l01 l10 l11 n : Int) (w : World) (hok : OkO b0 b1 l00 l01 l10 l11) (hn0 : 0 ≤ n) (hn1 : n ≤ 400) (h : (b1 != 0) = true) :
    Calls Try.prog 7 #[.agg #[.int .i64 b0, .int .i64 b1, .int .i64 l00, .int .i64 l01, .int .i64 l10, .int .i64 l11], .int .i64 1, .int .i64 1, .int .i64 n] w (fun e w' => e = .returned (.tuple #[.agg #[.int .i64 0, .int .i64 0, .int .i64 0, .int .i64 0, .int .i64 0, .int .i64 0], .int .i64 10]) ∧ Below w.heap.size w w') := by
  have H := Lib.hid hok
  clear hok
  go_enter Try.func7, Try.ntmps7
  go_wp2_with fail
  refine (open_state_11 b0 b1 l00 l01 l10 l11 n _ H.out hn0 hn1 h).mono ?_
  rintro e w1 ⟨rfl, rfl⟩
  go_wp2
  go_returns
  exact ⟨rfl, by go_grown⟩

set_option maxHeartbeats 1000000 in
theorem Move_hit_0 (b0 b1 l00 l01 l10 l11 : Int) (w : World) (hok : OkO b0 b1 l00 l01 l10 l11) (h : (b0 == 1) = true) :
    Calls Try.prog 9 #[.agg #[.int .i64 b0, .int .i64 b1, .int .i64 l00, .int .i64 l01, .int .i64 l10, .int .i64 l11], .int .i64 0] w (fun e w' => e = .returned (.tuple #[.agg #[.int .i64 (-1), .int .i64 (-1), .int .i64 l00, .int .i64 l01, .int .i64 l10, .int .i64 l11], .int .i64 0]) ∧ Below w.heap.size w w') := by
  have H := Lib.hid hok
  clear hok
  go_enter Try.func9, Try.ntmps9
  go_wp2_with fail
  refine (check_any b0 b1 l00 l01 l10 l11 0 0 0 _).mono ?_
  rintro e w1 ⟨c, rfl, hc, rfl⟩
  obtain rfl : c = 0 := hc.2 ⟨H.out, by unfold ArgsOk; omega⟩
  clear hc
  go_wp2
  go_returns
  exact ⟨rfl, by go_grown⟩

set_option maxHeartbeats 1000000 in
theorem Move_miss_0 (b0 b1 l00 l01 l10 l11 : Int) (w : World) (hok : OkO b0 b1 l00 l01 l10 l11) (h : (b0 == 1) = false) :
    Calls Try.prog 9 #[.agg #[.int .i64 b0, .int .i64 b1, .int .i64 l00, .int .i64 l01, .int .i64 l10, .int .i64 l11], .int .i64 0] w (fun e w' => e = .returned (.tuple #[.agg #[.int .i64 b0, .int .i64 (-1), .int .i64 l00, .int .i64 l01, .int .i64 l10, .int .i64 l11], .int .i64 0]) ∧ Below w.heap.size w w') := by
  have H := Lib.hid hok
  clear hok
  go_enter Try.func9, Try.ntmps9
  go_wp2_with fail
  refine (check_any b0 b1 l00 l01 l10 l11 0 0 0 _).mono ?_
  rintro e w1 ⟨c, rfl, hc, rfl⟩
  obtain rfl : c = 0 := hc.2 ⟨H.out, by unfold ArgsOk; omega⟩
  clear hc
  go_wp2
  go_returns
  exact ⟨rfl, by go_grown⟩

set_option maxHeartbeats 1000000 in
theorem Move_hit_1 (b0 b1 l00 l01 l10 l11 : Int) (w : World) (hok : OkO b0 b1 l00 l01 l10 l11) (h : (b0 == 0) = true) :
    Calls Try.prog 9 #[.agg #[.int .i64 b0, .int .i64 b1, .int .i64 l00, .int .i64 l01, .int .i64 l10, .int .i64 l11], .int .i64 1] w (fun e w' => e = .returned (.tuple #[.agg #[.int .i64 (-1), .int .i64 (-1), .int .i64 l00, .int .i64 l01, .int .i64 l10, .int .i64 l11], .int .i64 0]) ∧ Below w.heap.size w w') := by
  have H := Lib.hid hok
  clear hok
  go_enter Try.func9, Try.ntmps9
  go_wp2_with fail
  refine (check_any b0 b1 l00 l01 l10 l11 0 1 0 _).mono ?_
  rintro e w1 ⟨c, rfl, hc, rfl⟩
  obtain rfl : c = 0 := hc.2 ⟨H.out, by unfold ArgsOk; omega⟩
  clear hc
  go_wp2
  go_returns
  exact ⟨rfl, by go_grown⟩

set_option maxHeartbeats 1000000 in
theorem Move_miss_1 (b0 b1 l00 l01 l10 l11 : Int) (w : World) (hok : OkO b0 b1 l00 l01 l10 l11) (h : (b0 == 0) = false) :
    Calls Try.prog 9 #[.agg #[.int .i64 b0, .int .i64 b1, .int .i64 l00, .int .i64 l01, .int .i64 l10, .int .i64 l11], .int .i64 1] w (fun e w' => e = .returned (.tuple #[.agg #[.int .i64 b0, .int .i64 (-1), .int .i64 l00, .int .i64 l01, .int .i64 l10, .int .i64 l11], .int .i64 0]) ∧ Below w.heap.size w w') := by
  have H := Lib.hid hok
  clear hok
  go_enter Try.func9, Try.ntmps9
  go_wp2_with fail
  refine (check_any b0 b1 l00 l01 l10 l11 0 1 0 _).mono ?_
  rintro e w1 ⟨c, rfl, hc, rfl⟩
  obtain rfl : c = 0 := hc.2 ⟨H.out, by unfold ArgsOk; omega⟩
  clear hc
  go_wp2
  go_returns
  exact ⟨rfl, by go_grown⟩

set_option maxHeartbeats 2000000 in
theorem Back_0 (b0 b1 l00 l01 l10 l11 : Int) (w : World) (hok : OkO b0 b1 l00 l01 l10 l11) :
    Calls Try.prog 10 #[.agg #[.int .i64 b0, .int .i64 b1, .int .i64 l00, .int .i64 l01, .int .i64 l10, .int .i64 l11], .int .i64 0] w (fun e w' => (∃ x00 x01 x10 x11 : Int, e = .returned (.tuple #[.agg #[.int .i64 (-1), .int .i64 (-1), .int .i64 x00, .int .i64 x01, .int .i64 x10, .int .i64 x11], .int .i64 0])) ∧ Below w.heap.size w w') := by
  have H := Lib.hid hok
  clear hok
  have i0 := ix0
  have i1 := ix1
  go_enter Try.func10, Try.ntmps10
  go_wp2_with fail
  refine (check_any b0 b1 l00 l01 l10 l11 0 0 0 _).mono ?_
  rintro e w1 ⟨c, rfl, hc, rfl⟩
  obtain rfl : c = 0 := hc.2 ⟨H.out, by unfold ArgsOk; omega⟩
  clear hc
  go_wp2
  refine wp_loop_rounds 3 ?_
  repeat any_goals (first | (rw [rounds_succ]; go_wp2) | (refine wp_loop_rounds 3 ?_))
  all_goals
    go_returns
    exact ⟨⟨_, _, _, _, rfl⟩, by go_grown⟩
end Go.Proofs.Ytjdnhhddjnlgiaa
