/- OfferMoves: after the answer of the other player, or a move, no draw is offered by the player any more; for every input, no condition. -/
import Derived.Test.YtjdnhhddjnlgiaaFrame
import Derived.Test.YtjdnhhddjnlgiaaOffOps
import Derived.DeepKeys
namespace Go.Proofs.Ytjdnhhddjnlgiaa.offerMoves
open Go.ChangeShapes Go.WideShapes Go.ChangeAt Go.RowKit
set_option linter.unusedVariables false


theorem zz (w : World) : (binOp .eql 25 (.agg #[.int .i64 0, .int .i64 0, .int .i64 0, .int .i64 0, .int .i64 0, .int .i64 0]) (.agg #[.int .i64 0, .int .i64 0, .int .i64 0, .int .i64 0, .int .i64 0, .int .i64 0])).run Try.prog w = .ok (.bool true) w := by kernel_rfl
theorem mm (w : World) : (binOp .eql 22 (.agg #[.int .i64 (-1), .int .i64 (-1)]) (.agg #[.int .i64 (-1), .int .i64 (-1)])).run Try.prog w = .ok (.bool true) w := by kernel_rfl
theorem m1 (w : World) : (binOp .eql 22 (.agg #[.int .i64 1, .int .i64 (-1)]) (.agg #[.int .i64 1, .int .i64 (-1)])).run Try.prog w = .ok (.bool true) w := by kernel_rfl

theorem New_any (w : World) :
    Calls Try.prog 11 #[] w fun e w' => e = .returned (.agg #[.int .i64 (-1), .int .i64 (-1), .int .i64 (-1), .int .i64 (-1), .int .i64 (-1), .int .i64 (-1)]) ∧ w.alloc (.cells #[.int .i64 (-1), .int .i64 (-1), .int .i64 (-1), .int .i64 (-1), .int .i64 (-1), .int .i64 (-1)] 25) = w' := by
  go_enter Try.func11, Try.ntmps11
  go_wp2
  go_returns
  exact ⟨rfl, rfl⟩

set_option maxHeartbeats 1000000 in
theorem offers_any (w : World) :
    Calls Try.prog 5 #[] w fun e w' => e = .returned (.bool true) ∧ Below w.heap.size w w' := by
  have h1 := mm
  have h2 := m1
  go_enter Try.func5, Try.ntmps5
  go_wp2_with fail
  refine (New_any _).mono ?_
  rintro e w1 ⟨rfl, rfl⟩
  go_wp2_with fail
  refine (Make_ok_01 (-1) (-1) (-1) (-1) (-1) (-1) 3 _ (by unfold OkO; omega) (by omega) (by omega) (by omega) (by decide)).mono ?_
  rintro e w1 ⟨rfl, hb⟩
  obtain ⟨hcell, hfr⟩ := bcell hb
  have hz : w.heap.size + 1 < w1.heap.size := by have := hb.size; simp at this; omega
  go_wp2
  go_ret
  exact ⟨rfl, (((((Below.refl _ _).alloc (by go_size) _).alloc (by go_size) _).trans (hb.mono (by go_size))).alloc (by go_size) _)⟩

set_option maxHeartbeats 2000000 in
theorem walk_bad (b0 b1 l00 l01 l10 l11 p n : Int) (w : World) (h : ¬ (OkO b0 b1 l00 l01 l10 l11 ∧ ArgsOk 0 p n)) :
    Calls Try.prog 4 #[.agg #[.int .i64 b0, .int .i64 b1, .int .i64 l00, .int .i64 l01, .int .i64 l10, .int .i64 l11], .int .i64 p, .int .i64 n] w fun e w' => e = .returned (.bool true) ∧ Below w.heap.size w w' := by
  have H := Lib.hid h
  clear h
  have hzz := zz
  go_enter Try.func4, Try.ntmps4
  go_wp2_with fail
  refine (offers_any _).mono ?_
  rintro e w1 ⟨rfl, hb1⟩
  obtain ⟨hcell1, hfr1⟩ := bcell hb1
  have hs1 := hb1.size
  (try simp only [World.size_alloc] at hs1)
  have hz1_0 : w.heap.size < w1.heap.size := by omega
  go_wp2_with fail
  refine (Make_bad b0 b1 l00 l01 l10 l11 0 p n _ H.out).mono ?_
  rintro e w2 ⟨c, hc, rfl, hb2⟩
  have hs2 := hb2.size
  have h1 : (c != 0) = true := by simpa using hc
  clear hc
  go_wp2
  go_ret
  exact ⟨rfl, ((((Below.refl w.heap.size w).alloc (by go_size) _).trans (hb1.mono (by go_size))).trans (hb2.mono (by go_size))).alloc (by go_size) _⟩

set_option maxHeartbeats 2000000 in
theorem walk_twice_0 (b0 b1 l00 l01 l10 l11 n : Int) (w : World) (hok : OkO b0 b1 l00 l01 l10 l11) (hn0 : 0 ≤ n) (hn1 : n ≤ 400) (h : 0 ≤ b0) :
    Calls Try.prog 4 #[.agg #[.int .i64 b0, .int .i64 b1, .int .i64 l00, .int .i64 l01, .int .i64 l10, .int .i64 l11], .int .i64 0, .int .i64 n] w fun e w' => e = .returned (.bool true) ∧ Below w.heap.size w w' := by
  have H := Lib.hid hok
  clear hok
  have hzz := zz
  go_enter Try.func4, Try.ntmps4
  go_wp2_with fail
  refine (offers_any _).mono ?_
  rintro e w1 ⟨rfl, hb1⟩
  obtain ⟨hcell1, hfr1⟩ := bcell hb1
  have hs1 := hb1.size
  (try simp only [World.size_alloc] at hs1)
  have hz1_0 : w.heap.size < w1.heap.size := by omega
  go_wp2_with fail
  refine (Make_twice_00 b0 b1 l00 l01 l10 l11 n _ H.out hn0 hn1 h).mono ?_
  rintro e w2 ⟨rfl, hb2⟩
  obtain ⟨hcell2, hfr2⟩ := bcell hb2
  have hs2 := hb2.size
  (try simp only [World.size_alloc] at hs2)
  go_wp2
  go_ret
  exact ⟨rfl, ((((Below.refl w.heap.size w).alloc (by go_size) _).trans (hb1.mono (by go_size))).trans (hb2.mono (by go_size))).alloc (by go_size) _⟩

set_option maxHeartbeats 2000000 in
theorem walk_time_0 (b0 b1 l00 l01 l10 l11 n : Int) (w : World) (hok : OkO b0 b1 l00 l01 l10 l11) (hn0 : 0 ≤ n) (hn1 : n ≤ 400) (h : b0 < 0) (h2 : (l00 == n) = true) :
    Calls Try.prog 4 #[.agg #[.int .i64 b0, .int .i64 b1, .int .i64 l00, .int .i64 l01, .int .i64 l10, .int .i64 l11], .int .i64 0, .int .i64 n] w fun e w' => e = .returned (.bool true) ∧ Below w.heap.size w w' := by
  have H := Lib.hid hok
  clear hok
  have hzz := zz
  go_enter Try.func4, Try.ntmps4
  go_wp2_with fail
  refine (offers_any _).mono ?_
  rintro e w1 ⟨rfl, hb1⟩
  obtain ⟨hcell1, hfr1⟩ := bcell hb1
  have hs1 := hb1.size
  (try simp only [World.size_alloc] at hs1)
  have hz1_0 : w.heap.size < w1.heap.size := by omega
  go_wp2_with fail
  refine (Make_time_00 b0 b1 l00 l01 l10 l11 n _ H.out hn0 hn1 h h2).mono ?_
  rintro e w2 ⟨rfl, hb2⟩
  obtain ⟨hcell2, hfr2⟩ := bcell hb2
  have hs2 := hb2.size
  (try simp only [World.size_alloc] at hs2)
  go_wp2
  go_ret
  exact ⟨rfl, ((((Below.refl w.heap.size w).alloc (by go_size) _).trans (hb1.mono (by go_size))).trans (hb2.mono (by go_size))).alloc (by go_size) _⟩

set_option maxHeartbeats 2000000 in
theorem walk_ok_0 (b0 b1 l00 l01 l10 l11 n : Int) (w : World) (hok : OkO b0 b1 l00 l01 l10 l11) (hn0 : 0 ≤ n) (hn1 : n ≤ 400) (h : b0 < 0) (h2 : (l00 == n) = false) :
    Calls Try.prog 4 #[.agg #[.int .i64 b0, .int .i64 b1, .int .i64 l00, .int .i64 l01, .int .i64 l10, .int .i64 l11], .int .i64 0, .int .i64 n] w fun e w' => e = .returned (.bool true) ∧ Below w.heap.size w w' := by
  have H := Lib.hid hok
  have Hx : Hid (OkO 0 b1 n l01 l10 l11) := Lib.hid (by unfold OkO at *; omega)
  clear hok
  have hm := mm
  go_enter Try.func4, Try.ntmps4
  go_wp2_with fail
  refine (offers_any _).mono ?_
  rintro e w1 ⟨rfl, hb1⟩
  obtain ⟨hcell1, hfr1⟩ := bcell hb1
  have hs1 := hb1.size
  (try simp only [World.size_alloc] at hs1)
  have hz1_0 : w.heap.size < w1.heap.size := by omega
  go_wp2_with fail
  refine (Make_ok_00 b0 b1 l00 l01 l10 l11 n _ H.out hn0 hn1 h h2).mono ?_
  rintro e w2 ⟨rfl, hb2⟩
  obtain ⟨hcell2, hfr2⟩ := bcell hb2
  have hs2 := hb2.size
  (try simp only [World.size_alloc] at hs2)
  go_wp2_with fail
  refine (Accept_ok_01 0 b1 n l01 l10 l11 n _ Hx.out hn0 hn1 (by decide)).mono ?_
  rintro e w3 ⟨rfl, hb3⟩
  obtain ⟨hcell3, hfr3⟩ := bcell hb3
  have hs3 := hb3.size
  (try simp only [World.size_alloc] at hs3)
  have hz3_0 : w2.heap.size < w3.heap.size := by omega
  go_wp2_with fail
  refine (Move_hit_1 0 b1 n l01 l10 l11 _ Hx.out (by decide)).mono ?_
  rintro e w4 ⟨rfl, hb4⟩
  obtain ⟨hcell4, hfr4⟩ := bcell hb4
  have hs4 := hb4.size
  (try simp only [World.size_alloc] at hs4)
  have hz4_0 : w2.heap.size < w4.heap.size := by omega
  have hz4_1 : w3.heap.size < w4.heap.size := by omega
  go_wp2_with fail
  refine (Move_miss_0 0 b1 n l01 l10 l11 _ Hx.out (by decide)).mono ?_
  rintro e w5 ⟨rfl, hb5⟩
  obtain ⟨hcell5, hfr5⟩ := bcell hb5
  have hs5 := hb5.size
  (try simp only [World.size_alloc] at hs5)
  have hz5_0 : w2.heap.size < w5.heap.size := by omega
  have hz5_1 : w3.heap.size < w5.heap.size := by omega
  have hz5_2 : w4.heap.size < w5.heap.size := by omega
  go_wp2_with fail
  refine (Back_0 0 b1 n l01 l10 l11 _ Hx.out).mono ?_
  rintro e w6 ⟨⟨x00, x01, x10, x11, rfl⟩, hb6⟩
  obtain ⟨hcell6, hfr6⟩ := bcell hb6
  have hs6 := hb6.size
  (try simp only [World.size_alloc] at hs6)
  have hz6_0 : w2.heap.size < w6.heap.size := by omega
  have hz6_1 : w3.heap.size < w6.heap.size := by omega
  have hz6_2 : w4.heap.size < w6.heap.size := by omega
  have hz6_3 : w5.heap.size < w6.heap.size := by omega
  go_wp2
  go_ret
  exact ⟨rfl, ((((((((((((Below.refl w.heap.size w).alloc (by go_size) _).trans (hb1.mono (by go_size))).trans (hb2.mono (by go_size))).alloc (by go_size) _).trans (hb3.mono (by go_size))).alloc (by go_size) _).trans (hb4.mono (by go_size))).alloc (by go_size) _).trans (hb5.mono (by go_size))).alloc (by go_size) _).trans (hb6.mono (by go_size))).alloc (by go_size) _⟩

set_option maxHeartbeats 2000000 in
theorem walk_twice_1 (b0 b1 l00 l01 l10 l11 n : Int) (w : World) (hok : OkO b0 b1 l00 l01 l10 l11) (hn0 : 0 ≤ n) (hn1 : n ≤ 400) (h : 0 ≤ b0) :
    Calls Try.prog 4 #[.agg #[.int .i64 b0, .int .i64 b1, .int .i64 l00, .int .i64 l01, .int .i64 l10, .int .i64 l11], .int .i64 1, .int .i64 n] w fun e w' => e = .returned (.bool true) ∧ Below w.heap.size w w' := by
  have H := Lib.hid hok
  clear hok
  have hzz := zz
  go_enter Try.func4, Try.ntmps4
  go_wp2_with fail
  refine (offers_any _).mono ?_
  rintro e w1 ⟨rfl, hb1⟩
  obtain ⟨hcell1, hfr1⟩ := bcell hb1
  have hs1 := hb1.size
  (try simp only [World.size_alloc] at hs1)
  have hz1_0 : w.heap.size < w1.heap.size := by omega
  go_wp2_with fail
  refine (Make_twice_01 b0 b1 l00 l01 l10 l11 n _ H.out hn0 hn1 h).mono ?_
  rintro e w2 ⟨rfl, hb2⟩
  obtain ⟨hcell2, hfr2⟩ := bcell hb2
  have hs2 := hb2.size
  (try simp only [World.size_alloc] at hs2)
  go_wp2
  go_ret
  exact ⟨rfl, ((((Below.refl w.heap.size w).alloc (by go_size) _).trans (hb1.mono (by go_size))).trans (hb2.mono (by go_size))).alloc (by go_size) _⟩

set_option maxHeartbeats 2000000 in
theorem walk_time_1 (b0 b1 l00 l01 l10 l11 n : Int) (w : World) (hok : OkO b0 b1 l00 l01 l10 l11) (hn0 : 0 ≤ n) (hn1 : n ≤ 400) (h : b0 < 0) (h2 : (l01 == n) = true) :
    Calls Try.prog 4 #[.agg #[.int .i64 b0, .int .i64 b1, .int .i64 l00, .int .i64 l01, .int .i64 l10, .int .i64 l11], .int .i64 1, .int .i64 n] w fun e w' => e = .returned (.bool true) ∧ Below w.heap.size w w' := by
  have H := Lib.hid hok
  clear hok
  have hzz := zz
  go_enter Try.func4, Try.ntmps4
  go_wp2_with fail
  refine (offers_any _).mono ?_
  rintro e w1 ⟨rfl, hb1⟩
  obtain ⟨hcell1, hfr1⟩ := bcell hb1
  have hs1 := hb1.size
  (try simp only [World.size_alloc] at hs1)
  have hz1_0 : w.heap.size < w1.heap.size := by omega
  go_wp2_with fail
  refine (Make_time_01 b0 b1 l00 l01 l10 l11 n _ H.out hn0 hn1 h h2).mono ?_
  rintro e w2 ⟨rfl, hb2⟩
  obtain ⟨hcell2, hfr2⟩ := bcell hb2
  have hs2 := hb2.size
  (try simp only [World.size_alloc] at hs2)
  go_wp2
  go_ret
  exact ⟨rfl, ((((Below.refl w.heap.size w).alloc (by go_size) _).trans (hb1.mono (by go_size))).trans (hb2.mono (by go_size))).alloc (by go_size) _⟩

set_option maxHeartbeats 2000000 in
theorem walk_ok_1 (b0 b1 l00 l01 l10 l11 n : Int) (w : World) (hok : OkO b0 b1 l00 l01 l10 l11) (hn0 : 0 ≤ n) (hn1 : n ≤ 400) (h : b0 < 0) (h2 : (l01 == n) = false) :
    Calls Try.prog 4 #[.agg #[.int .i64 b0, .int .i64 b1, .int .i64 l00, .int .i64 l01, .int .i64 l10, .int .i64 l11], .int .i64 1, .int .i64 n] w fun e w' => e = .returned (.bool true) ∧ Below w.heap.size w w' := by
  have H := Lib.hid hok
  have Hx : Hid (OkO 1 b1 l00 n l10 l11) := Lib.hid (by unfold OkO at *; omega)
  clear hok
  have hm := mm
  go_enter Try.func4, Try.ntmps4
  go_wp2_with fail
  refine (offers_any _).mono ?_
  rintro e w1 ⟨rfl, hb1⟩
  obtain ⟨hcell1, hfr1⟩ := bcell hb1
  have hs1 := hb1.size
  (try simp only [World.size_alloc] at hs1)
  have hz1_0 : w.heap.size < w1.heap.size := by omega
  go_wp2_with fail
  refine (Make_ok_01 b0 b1 l00 l01 l10 l11 n _ H.out hn0 hn1 h h2).mono ?_
  rintro e w2 ⟨rfl, hb2⟩
  obtain ⟨hcell2, hfr2⟩ := bcell hb2
  have hs2 := hb2.size
  (try simp only [World.size_alloc] at hs2)
  go_wp2_with fail
  refine (Accept_ok_00 1 b1 l00 n l10 l11 n _ Hx.out hn0 hn1 (by decide)).mono ?_
  rintro e w3 ⟨rfl, hb3⟩
  obtain ⟨hcell3, hfr3⟩ := bcell hb3
  have hs3 := hb3.size
  (try simp only [World.size_alloc] at hs3)
  have hz3_0 : w2.heap.size < w3.heap.size := by omega
  go_wp2_with fail
  refine (Move_hit_0 1 b1 l00 n l10 l11 _ Hx.out (by decide)).mono ?_
  rintro e w4 ⟨rfl, hb4⟩
  obtain ⟨hcell4, hfr4⟩ := bcell hb4
  have hs4 := hb4.size
  (try simp only [World.size_alloc] at hs4)
  have hz4_0 : w2.heap.size < w4.heap.size := by omega
  have hz4_1 : w3.heap.size < w4.heap.size := by omega
  go_wp2_with fail
  refine (Move_miss_1 1 b1 l00 n l10 l11 _ Hx.out (by decide)).mono ?_
  rintro e w5 ⟨rfl, hb5⟩
  obtain ⟨hcell5, hfr5⟩ := bcell hb5
  have hs5 := hb5.size
  (try simp only [World.size_alloc] at hs5)
  have hz5_0 : w2.heap.size < w5.heap.size := by omega
  have hz5_1 : w3.heap.size < w5.heap.size := by omega
  have hz5_2 : w4.heap.size < w5.heap.size := by omega
  go_wp2_with fail
  refine (Back_0 1 b1 l00 n l10 l11 _ Hx.out).mono ?_
  rintro e w6 ⟨⟨x00, x01, x10, x11, rfl⟩, hb6⟩
  obtain ⟨hcell6, hfr6⟩ := bcell hb6
  have hs6 := hb6.size
  (try simp only [World.size_alloc] at hs6)
  have hz6_0 : w2.heap.size < w6.heap.size := by omega
  have hz6_1 : w3.heap.size < w6.heap.size := by omega
  have hz6_2 : w4.heap.size < w6.heap.size := by omega
  have hz6_3 : w5.heap.size < w6.heap.size := by omega
  go_wp2
  go_ret
  exact ⟨rfl, ((((((((((((Below.refl w.heap.size w).alloc (by go_size) _).trans (hb1.mono (by go_size))).trans (hb2.mono (by go_size))).alloc (by go_size) _).trans (hb3.mono (by go_size))).alloc (by go_size) _).trans (hb4.mono (by go_size))).alloc (by go_size) _).trans (hb5.mono (by go_size))).alloc (by go_size) _).trans (hb6.mono (by go_size))).alloc (by go_size) _⟩

theorem walk (b0 b1 l00 l01 l10 l11 p n : Int) (w : World) :
    Calls Try.prog 4 #[.agg #[.int .i64 b0, .int .i64 b1, .int .i64 l00, .int .i64 l01, .int .i64 l10, .int .i64 l11], .int .i64 p, .int .i64 n] w fun e w' => e = .returned (.bool true) ∧ Below w.heap.size w w' := by
  by_cases h : OkO b0 b1 l00 l01 l10 l11 ∧ ArgsOk 0 p n
  · obtain ⟨hok, hk, hp, hn0, hn1⟩ := h
    rcases hp with rfl | rfl
    · by_cases hb : 0 ≤ b0
      · exact walk_twice_0 b0 b1 l00 l01 l10 l11 n w hok hn0 hn1 hb
      · by_cases hl : (l00 == n) = true
        · exact walk_time_0 b0 b1 l00 l01 l10 l11 n w hok hn0 hn1 (by omega) hl
        · exact walk_ok_0 b0 b1 l00 l01 l10 l11 n w hok hn0 hn1 (by omega) (by simpa using hl)
    · by_cases hb : 0 ≤ b0
      · exact walk_twice_1 b0 b1 l00 l01 l10 l11 n w hok hn0 hn1 hb
      · by_cases hl : (l01 == n) = true
        · exact walk_time_1 b0 b1 l00 l01 l10 l11 n w hok hn0 hn1 (by omega) hl
        · exact walk_ok_1 b0 b1 l00 l01 l10 l11 n w hok hn0 hn1 (by omega) (by simpa using hl)
  · exact walk_bad b0 b1 l00 l01 l10 l11 p n w h

theorem openO {w : World} {r : Reach} {base : Nat} {v : Value} (h : Value.okWide Try.prog w r base 25 v) :
    ∃ b0 b1 l00 l01 l10 l11 : Int, v = .agg #[.int .i64 b0, .int .i64 b1, .int .i64 l00, .int .i64 l01, .int .i64 l10, .int .i64 l11] := by
  obtain ⟨cs, rfl, hl, hc⟩ := okWide_cells (ts := [3, 3, 3, 3, 3, 3]) Try.underlying25 (by kernel_rfl) (by kernel_rfl) h
  match cs, hl with
  | [c0, c1, c2, c3, c4, c5], _ =>
    have f : ∀ (i : Nat) (x : Value), i < 6 → [c0, c1, c2, c3, c4, c5][i]? = some x → ∃ n : Int, x = .int .i64 n := by
      intro i x hi hx
      obtain ⟨u, hu, hk⟩ := hc i x hx
      have : u = 3 := by
        have hi' : i = 0 ∨ i = 1 ∨ i = 2 ∨ i = 3 ∨ i = 4 ∨ i = 5 := by omega
        rcases hi' with rfl | rfl | rfl | rfl | rfl | rfl <;> simpa using hu.symm
      subst this
      obtain ⟨n, rfl, _⟩ := cell_int Try.underlying3 hk
      exact ⟨n, rfl⟩
    obtain ⟨n0, rfl⟩ := f 0 c0 (by omega) rfl
    obtain ⟨n1, rfl⟩ := f 1 c1 (by omega) rfl
    obtain ⟨n2, rfl⟩ := f 2 c2 (by omega) rfl
    obtain ⟨n3, rfl⟩ := f 3 c3 (by omega) rfl
    obtain ⟨n4, rfl⟩ := f 4 c4 (by omega) rfl
    obtain ⟨n5, rfl⟩ := f 5 c5 (by omega) rfl
    exact ⟨n0, n1, n2, n3, n4, n5, rfl⟩

section
theorem own : ownKnob Try.prog.godebug = none := by kernel_rfl
theorem laidOut : laidOutB Try.prog = true := by kernel_rfl

set_option maxRecDepth 100000 in
theorem lifted (os : Os) (started : os.Started) (H : Type) (enc : TypeId × Value → H) :
    ReturnsInHanded {} Try.checked os 4 .any (Rows.offerMovesSpec.pre6 enc Try.prog Try.f4 Rows.offerMovesRow.domain false) (Rows.offerMovesSpec.post enc Try.prog Try.f4 false true false false) := by
  refine returnsInHanded_of_change (C := Try.checked) own started (by kernel_rfl) Try.func4
    (ChangeSpec.witness6 (enc := enc) (C := Try.checked) false ⟨#[], #[.agg #[.int .i64 0, .int .i64 0, .int .i64 0, .int .i64 0, .int .i64 0, .int .i64 0], .int .i64 0, .int .i64 0], []⟩ 8 (by kernel_rfl) (by kernel_rfl) (by kernel_rfl) (by kernel_rfl)) ?_
  intro W base args ds gs before hval0 hW hcnd _
  have hval : ∀ (j : Nat) t v, Try.f4.params[j]? = some t → args[j]? = some v → Value.okWide Try.prog W .any base t v := hval0
  have hW' := hW
  obtain ⟨p, q, hA0, hV, rfl, hfz, hnd⟩ := hW
  have hA : DataW.TrodAll enc Try.prog W 0 (fun _ => true) true Try.f4.params.toList args.toList ds p := hA0
  rw [Try.params4] at hA hval
  have hAll := hA
  obtain ⟨v0, vs0, d0, ds0, p0, q0, hargs, rfl, rfl, h0, r0⟩ := trodAll_cons hA
  obtain ⟨v1, vs1, d1, ds1, p1, q1, rfl, rfl, rfl, h1, r1⟩ := trodAll_cons r0
  obtain ⟨v2, vs2, d2, ds2, p2, q2, rfl, rfl, rfl, h2, r2⟩ := trodAll_cons r1
  obtain ⟨rfl, rfl, rfl⟩ := trodAll_nil r2
  obtain rfl : args = #[v0, v1, v2] := by cases args; simp_all
  obtain ⟨rfl, rfl⟩ := trodVars_none hV
  obtain ⟨b0, b1, l00, l01, l10, l11, rfl⟩ := openO (hval 0 25 v0 rfl rfl)
  obtain ⟨a1, rfl, rfl, rfl, w1⟩ := open_int Try.underlying3 (hval 1 3 v1 rfl rfl) h1
  obtain ⟨a2, rfl, rfl, rfl, w2⟩ := open_int Try.underlying3 (hval 2 3 v2 rfl rfl) h2
  clear hA0 hval0
  refine (walk b0 b1 l00 l01 l10 l11 a1 a2 W).mono fun e W' ⟨he, bel⟩ => ?_
  subst he
  exact ⟨_, rfl, _, _, _, [], _, [], hW', trodAll_mk1 (shut_bool Try.underlying4 _), trodAll_stays laidOut bel (by kernel_rfl) hAll, rfl, bel.frame _, fun h => by cases h⟩

theorem over : Rows.offerMovesRow.holds Try.pinned (OpenSpec.ofChange Rows.offerMovesSpec) :=
  OpenClaim.holds_of_wide 4 Try.f4 rfl rfl rfl rfl rfl rfl rfl ⟨rfl, rfl, rfl, rfl, rfl⟩ rfl rfl rfl rfl rfl (by kernel_rfl) Try.func4 (by kernel_rfl)
    (of_decide_eq_true (by kernel_rfl)) (by unfold Func.isWrapper; first | (rw [if_pos (by decide +kernel)]; kernel_rfl) | (rw [if_neg (by decide +kernel)]; exact ⟨rfl, rfl⟩))
    (fun os started H enc _ => lifted os started H enc)

theorem proved : Rows.OfferMovesSaid := over
end
#print axioms proved
end Go.Proofs.Ytjdnhhddjnlgiaa.offerMoves
