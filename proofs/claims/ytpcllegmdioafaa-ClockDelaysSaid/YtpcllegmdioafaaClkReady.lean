/- The contracts of clock.ready, clock.Go and clock.Fall. -/
import Derived.Test.YtpcllegmdioafaaClkLeft
import Derived.Deep.Cut
namespace Go.Proofs.Ytpcllegmdioafaa
open Go.ChangeShapes Go.WideShapes Go.ChangeAt Go.RowKit
set_option linter.unusedVariables false

set_option maxHeartbeats 1000000 in
theorem ready_bad (A : Option Addr) (n cap : Nat) (inc delay : Int) (ps : List (Int × Int)) (l0 l1 m0 m1 p0 p1 turn since fallen : Int) (st : Bool) (now : Int) (want : Bool) (w : World) (hn : n ≤ 9223372036854775807) (hp : PerAt w w.heap.size A n ps) (h : ¬ (RuleOk n inc delay ps ∧ ClkOk n l0 l1 m0 m1 p0 p1 turn since fallen)) :
    Calls Try.prog 18 #[.agg #[.slice A n cap, .int .i64 inc, .int .i64 delay], .agg #[.int .i64 l0, .int .i64 l1, .int .i64 m0, .int .i64 m1, .int .i64 p0, .int .i64 p1, .int .i64 turn, .int .i64 since, .bool st, .int .i64 fallen], .int .i64 now, .bool want] w (fun e w' => ∃ c : Int, c ≠ 0 ∧ e = .returned (.tuple #[.agg #[.int .i64 0, .int .i64 0, .int .i64 0, .int .i64 0, .int .i64 0, .int .i64 0, .int .i64 0, .int .i64 0, .bool false, .int .i64 0], .int .i64 c]) ∧ Below w.heap.size w w') := by
  have H := Lib.hid h
  clear h
  have hP := Lib.hid (((hp.alloc (.cells #[.slice A n cap, .int .i64 inc, .int .i64 delay] 24)).alloc (.cells #[.int .i64 l0, .int .i64 l1, .int .i64 m0, .int .i64 m1, .int .i64 p0, .int .i64 p1, .int .i64 turn, .int .i64 since, .bool st, .int .i64 fallen] 27)).alloc (.cells #[.int .i64 0, .int .i64 0, .int .i64 0, .int .i64 0, .int .i64 0, .int .i64 0, .int .i64 0, .int .i64 0, .bool false, .int .i64 0] 27))
  clear hp
  go_enter Try.func18, Try.ntmps18
  go_wp2_with fail
  refine (Look_bad A n cap inc delay ps l0 l1 m0 m1 p0 p1 turn since fallen st now _ hn hP.out H.out).mono ?_
  rintro e w1 ⟨c, hc, rfl, hb⟩
  have h1 : (c != 0) = true := by simpa using hc
  obtain ⟨hcell, hfr⟩ := bcell hb
  have hs := hb.size
  (try simp only [World.size_alloc] at hs)
  have hz0 : w.heap.size < w1.heap.size := by omega
  have hz1 : w.heap.size + 1 < w1.heap.size := by omega
  have hz2 : w.heap.size + 1 + 1 < w1.heap.size := by omega
  have hbel := ((((Below.refl w.heap.size w).alloc (by go_size) _).alloc (by go_size) _).alloc (by go_size) _).trans (hb.mono (by go_size))
  go_upto_region 2 with (fail)
  generalize hW : ((((((((((w1.setCell ⟨w.heap.size + 1, 0, none⟩ (.int .i64 0)).setCell ⟨w.heap.size + 1, 1, none⟩ (.int .i64 0)).setCell ⟨w.heap.size + 1, 2, none⟩ (.int .i64 0)).setCell ⟨w.heap.size + 1, 3, none⟩ (.int .i64 0)).setCell ⟨w.heap.size + 1, 4, none⟩ (.int .i64 0)).setCell ⟨w.heap.size + 1, 5, none⟩ (.int .i64 0)).setCell ⟨w.heap.size + 1, 6, none⟩ (.int .i64 0)).setCell ⟨w.heap.size + 1, 7, none⟩ (.int .i64 0)).setCell ⟨w.heap.size + 1, 8, none⟩ (.bool false)).setCell ⟨w.heap.size + 1, 9, none⟩ (.int .i64 0)) = w2
  have r0 : w2.cell? ⟨w.heap.size, 0, none⟩ = some (.slice A n cap) := by rw [← hW]; simp [hcell, go_sem]
  have r1 : w2.cell? ⟨w.heap.size, 1, none⟩ = some (.int .i64 inc) := by rw [← hW]; simp [hcell, go_sem]
  have r2 : w2.cell? ⟨w.heap.size, 2, none⟩ = some (.int .i64 delay) := by rw [← hW]; simp [hcell, go_sem]
  have c0 : w2.cell? ⟨w.heap.size + 1, 0, none⟩ = some (.int .i64 0) := by rw [← hW]; simp [hcell, go_sem]
  have c1 : w2.cell? ⟨w.heap.size + 1, 1, none⟩ = some (.int .i64 0) := by rw [← hW]; simp [hcell, go_sem]
  have c2 : w2.cell? ⟨w.heap.size + 1, 2, none⟩ = some (.int .i64 0) := by rw [← hW]; simp [hcell, go_sem]
  have c3 : w2.cell? ⟨w.heap.size + 1, 3, none⟩ = some (.int .i64 0) := by rw [← hW]; simp [hcell, go_sem]
  have c4 : w2.cell? ⟨w.heap.size + 1, 4, none⟩ = some (.int .i64 0) := by rw [← hW]; simp [hcell, go_sem]
  have c5 : w2.cell? ⟨w.heap.size + 1, 5, none⟩ = some (.int .i64 0) := by rw [← hW]; simp [hcell, go_sem]
  have c6 : w2.cell? ⟨w.heap.size + 1, 6, none⟩ = some (.int .i64 0) := by rw [← hW]; simp [hcell, go_sem]
  have c7 : w2.cell? ⟨w.heap.size + 1, 7, none⟩ = some (.int .i64 0) := by rw [← hW]; simp [hcell, go_sem]
  have c8 : w2.cell? ⟨w.heap.size + 1, 8, none⟩ = some (.bool false) := by rw [← hW]; simp [hcell, go_sem]
  have c9 : w2.cell? ⟨w.heap.size + 1, 9, none⟩ = some (.int .i64 0) := by rw [← hW]; simp [hcell, go_sem]
  have g0 : w2.frozen? ⟨w.heap.size + 1, 0, none⟩ = false := by rw [← hW]; simp [hfr, go_sem]
  have g1 : w2.frozen? ⟨w.heap.size + 1, 1, none⟩ = false := by rw [← hW]; simp [hfr, go_sem]
  have g2 : w2.frozen? ⟨w.heap.size + 1, 2, none⟩ = false := by rw [← hW]; simp [hfr, go_sem]
  have g3 : w2.frozen? ⟨w.heap.size + 1, 3, none⟩ = false := by rw [← hW]; simp [hfr, go_sem]
  have g4 : w2.frozen? ⟨w.heap.size + 1, 4, none⟩ = false := by rw [← hW]; simp [hfr, go_sem]
  have g5 : w2.frozen? ⟨w.heap.size + 1, 5, none⟩ = false := by rw [← hW]; simp [hfr, go_sem]
  have g6 : w2.frozen? ⟨w.heap.size + 1, 6, none⟩ = false := by rw [← hW]; simp [hfr, go_sem]
  have g7 : w2.frozen? ⟨w.heap.size + 1, 7, none⟩ = false := by rw [← hW]; simp [hfr, go_sem]
  have g8 : w2.frozen? ⟨w.heap.size + 1, 8, none⟩ = false := by rw [← hW]; simp [hfr, go_sem]
  have g9 : w2.frozen? ⟨w.heap.size + 1, 9, none⟩ = false := by rw [← hW]; simp [hfr, go_sem]
  have z0 : w2.cell? ⟨w.heap.size + 1 + 1, 0, none⟩ = some (.int .i64 0) := by rw [← hW]; simp [hcell, go_sem]
  have z1 : w2.cell? ⟨w.heap.size + 1 + 1, 1, none⟩ = some (.int .i64 0) := by rw [← hW]; simp [hcell, go_sem]
  have z2 : w2.cell? ⟨w.heap.size + 1 + 1, 2, none⟩ = some (.int .i64 0) := by rw [← hW]; simp [hcell, go_sem]
  have z3 : w2.cell? ⟨w.heap.size + 1 + 1, 3, none⟩ = some (.int .i64 0) := by rw [← hW]; simp [hcell, go_sem]
  have z4 : w2.cell? ⟨w.heap.size + 1 + 1, 4, none⟩ = some (.int .i64 0) := by rw [← hW]; simp [hcell, go_sem]
  have z5 : w2.cell? ⟨w.heap.size + 1 + 1, 5, none⟩ = some (.int .i64 0) := by rw [← hW]; simp [hcell, go_sem]
  have z6 : w2.cell? ⟨w.heap.size + 1 + 1, 6, none⟩ = some (.int .i64 0) := by rw [← hW]; simp [hcell, go_sem]
  have z7 : w2.cell? ⟨w.heap.size + 1 + 1, 7, none⟩ = some (.int .i64 0) := by rw [← hW]; simp [hcell, go_sem]
  have z8 : w2.cell? ⟨w.heap.size + 1 + 1, 8, none⟩ = some (.bool false) := by rw [← hW]; simp [hcell, go_sem]
  have z9 : w2.cell? ⟨w.heap.size + 1 + 1, 9, none⟩ = some (.int .i64 0) := by rw [← hW]; simp [hcell, go_sem]
  have f0 : w2.frozen? ⟨w.heap.size + 1 + 1, 0, none⟩ = false := by rw [← hW]; simp [hfr, go_sem]
  have f1 : w2.frozen? ⟨w.heap.size + 1 + 1, 1, none⟩ = false := by rw [← hW]; simp [hfr, go_sem]
  have f2 : w2.frozen? ⟨w.heap.size + 1 + 1, 2, none⟩ = false := by rw [← hW]; simp [hfr, go_sem]
  have f3 : w2.frozen? ⟨w.heap.size + 1 + 1, 3, none⟩ = false := by rw [← hW]; simp [hfr, go_sem]
  have f4 : w2.frozen? ⟨w.heap.size + 1 + 1, 4, none⟩ = false := by rw [← hW]; simp [hfr, go_sem]
  have f5 : w2.frozen? ⟨w.heap.size + 1 + 1, 5, none⟩ = false := by rw [← hW]; simp [hfr, go_sem]
  have f6 : w2.frozen? ⟨w.heap.size + 1 + 1, 6, none⟩ = false := by rw [← hW]; simp [hfr, go_sem]
  have f7 : w2.frozen? ⟨w.heap.size + 1 + 1, 7, none⟩ = false := by rw [← hW]; simp [hfr, go_sem]
  have f8 : w2.frozen? ⟨w.heap.size + 1 + 1, 8, none⟩ = false := by rw [← hW]; simp [hfr, go_sem]
  have f9 : w2.frozen? ⟨w.heap.size + 1 + 1, 9, none⟩ = false := by rw [← hW]; simp [hfr, go_sem]
  have hs' : w2.heap.size = w1.heap.size := by rw [← hW]; simp
  have y0 : w.heap.size < w2.heap.size := by omega
  have y1 : w.heap.size + 1 < w2.heap.size := by omega
  have y2 : w.heap.size + 1 + 1 < w2.heap.size := by omega
  have hbel2 : Below w.heap.size w w2 := by rw [← hW]; go_grown
  clear hW hcell hfr hbel hs hs' hz0 hz1 hz2 hb
  go_wp2
  refine bodyPost_ret (v := .tuple #[.agg #[.int .i64 0, .int .i64 0, .int .i64 0, .int .i64 0, .int .i64 0, .int .i64 0, .int .i64 0, .int .i64 0, .bool false, .int .i64 0], .int .i64 c]) (by simp [results, Try.results18, go_sem, *]) rfl ?_
  refine ⟨c, hc, rfl, ?_⟩
  go_grown

set_option maxHeartbeats 1000000 in
theorem ready_time (A : Option Addr) (n cap : Nat) (inc delay : Int) (ps : List (Int × Int)) (l0 l1 m0 m1 p0 p1 turn since fallen : Int) (st : Bool) (now : Int) (want : Bool) (w : World) (hn : n ≤ 9223372036854775807) (hp : PerAt w w.heap.size A n ps) (hr : RuleOk n inc delay ps) (hk : ClkOk n l0 l1 m0 m1 p0 p1 turn since fallen) (e0 : witB now since 100000000 = false) :
    Calls Try.prog 18 #[.agg #[.slice A n cap, .int .i64 inc, .int .i64 delay], .agg #[.int .i64 l0, .int .i64 l1, .int .i64 m0, .int .i64 m1, .int .i64 p0, .int .i64 p1, .int .i64 turn, .int .i64 since, .bool st, .int .i64 fallen], .int .i64 now, .bool want] w (fun e w' => e = .returned (.tuple #[.agg #[.int .i64 0, .int .i64 0, .int .i64 0, .int .i64 0, .int .i64 0, .int .i64 0, .int .i64 0, .int .i64 0, .bool false, .int .i64 0], .int .i64 11]) ∧ Below w.heap.size w w') := by
  have H := Lib.hid hr
  have HC := Lib.hid hk
  clear hr hk
  have hP := Lib.hid (((hp.alloc (.cells #[.slice A n cap, .int .i64 inc, .int .i64 delay] 24)).alloc (.cells #[.int .i64 l0, .int .i64 l1, .int .i64 m0, .int .i64 m1, .int .i64 p0, .int .i64 p1, .int .i64 turn, .int .i64 since, .bool st, .int .i64 fallen] 27)).alloc (.cells #[.int .i64 0, .int .i64 0, .int .i64 0, .int .i64 0, .int .i64 0, .int .i64 0, .int .i64 0, .int .i64 0, .bool false, .int .i64 0] 27))
  clear hp
  go_enter Try.func18, Try.ntmps18
  go_wp2_with fail
  refine (Look_time A n cap inc delay ps l0 l1 m0 m1 p0 p1 turn since fallen st now _ hn hP.out H.out HC.out e0).mono ?_
  rintro e w1 ⟨rfl, hb⟩
  obtain ⟨hcell, hfr⟩ := bcell hb
  have hs := hb.size
  (try simp only [World.size_alloc] at hs)
  have hz0 : w.heap.size < w1.heap.size := by omega
  have hz1 : w.heap.size + 1 < w1.heap.size := by omega
  have hz2 : w.heap.size + 1 + 1 < w1.heap.size := by omega
  have hbel := ((((Below.refl w.heap.size w).alloc (by go_size) _).alloc (by go_size) _).alloc (by go_size) _).trans (hb.mono (by go_size))
  go_upto_region 2 with (fail)
  generalize hW : ((((((((((w1.setCell ⟨w.heap.size + 1, 0, none⟩ (.int .i64 0)).setCell ⟨w.heap.size + 1, 1, none⟩ (.int .i64 0)).setCell ⟨w.heap.size + 1, 2, none⟩ (.int .i64 0)).setCell ⟨w.heap.size + 1, 3, none⟩ (.int .i64 0)).setCell ⟨w.heap.size + 1, 4, none⟩ (.int .i64 0)).setCell ⟨w.heap.size + 1, 5, none⟩ (.int .i64 0)).setCell ⟨w.heap.size + 1, 6, none⟩ (.int .i64 0)).setCell ⟨w.heap.size + 1, 7, none⟩ (.int .i64 0)).setCell ⟨w.heap.size + 1, 8, none⟩ (.bool false)).setCell ⟨w.heap.size + 1, 9, none⟩ (.int .i64 0)) = w2
  have r0 : w2.cell? ⟨w.heap.size, 0, none⟩ = some (.slice A n cap) := by rw [← hW]; simp [hcell, go_sem]
  have r1 : w2.cell? ⟨w.heap.size, 1, none⟩ = some (.int .i64 inc) := by rw [← hW]; simp [hcell, go_sem]
  have r2 : w2.cell? ⟨w.heap.size, 2, none⟩ = some (.int .i64 delay) := by rw [← hW]; simp [hcell, go_sem]
  have c0 : w2.cell? ⟨w.heap.size + 1, 0, none⟩ = some (.int .i64 0) := by rw [← hW]; simp [hcell, go_sem]
  have c1 : w2.cell? ⟨w.heap.size + 1, 1, none⟩ = some (.int .i64 0) := by rw [← hW]; simp [hcell, go_sem]
  have c2 : w2.cell? ⟨w.heap.size + 1, 2, none⟩ = some (.int .i64 0) := by rw [← hW]; simp [hcell, go_sem]
  have c3 : w2.cell? ⟨w.heap.size + 1, 3, none⟩ = some (.int .i64 0) := by rw [← hW]; simp [hcell, go_sem]
  have c4 : w2.cell? ⟨w.heap.size + 1, 4, none⟩ = some (.int .i64 0) := by rw [← hW]; simp [hcell, go_sem]
  have c5 : w2.cell? ⟨w.heap.size + 1, 5, none⟩ = some (.int .i64 0) := by rw [← hW]; simp [hcell, go_sem]
  have c6 : w2.cell? ⟨w.heap.size + 1, 6, none⟩ = some (.int .i64 0) := by rw [← hW]; simp [hcell, go_sem]
  have c7 : w2.cell? ⟨w.heap.size + 1, 7, none⟩ = some (.int .i64 0) := by rw [← hW]; simp [hcell, go_sem]
  have c8 : w2.cell? ⟨w.heap.size + 1, 8, none⟩ = some (.bool false) := by rw [← hW]; simp [hcell, go_sem]
  have c9 : w2.cell? ⟨w.heap.size + 1, 9, none⟩ = some (.int .i64 0) := by rw [← hW]; simp [hcell, go_sem]
  have g0 : w2.frozen? ⟨w.heap.size + 1, 0, none⟩ = false := by rw [← hW]; simp [hfr, go_sem]
  have g1 : w2.frozen? ⟨w.heap.size + 1, 1, none⟩ = false := by rw [← hW]; simp [hfr, go_sem]
  have g2 : w2.frozen? ⟨w.heap.size + 1, 2, none⟩ = false := by rw [← hW]; simp [hfr, go_sem]
  have g3 : w2.frozen? ⟨w.heap.size + 1, 3, none⟩ = false := by rw [← hW]; simp [hfr, go_sem]
  have g4 : w2.frozen? ⟨w.heap.size + 1, 4, none⟩ = false := by rw [← hW]; simp [hfr, go_sem]
  have g5 : w2.frozen? ⟨w.heap.size + 1, 5, none⟩ = false := by rw [← hW]; simp [hfr, go_sem]
  have g6 : w2.frozen? ⟨w.heap.size + 1, 6, none⟩ = false := by rw [← hW]; simp [hfr, go_sem]
  have g7 : w2.frozen? ⟨w.heap.size + 1, 7, none⟩ = false := by rw [← hW]; simp [hfr, go_sem]
  have g8 : w2.frozen? ⟨w.heap.size + 1, 8, none⟩ = false := by rw [← hW]; simp [hfr, go_sem]
  have g9 : w2.frozen? ⟨w.heap.size + 1, 9, none⟩ = false := by rw [← hW]; simp [hfr, go_sem]
  have z0 : w2.cell? ⟨w.heap.size + 1 + 1, 0, none⟩ = some (.int .i64 0) := by rw [← hW]; simp [hcell, go_sem]
  have z1 : w2.cell? ⟨w.heap.size + 1 + 1, 1, none⟩ = some (.int .i64 0) := by rw [← hW]; simp [hcell, go_sem]
  have z2 : w2.cell? ⟨w.heap.size + 1 + 1, 2, none⟩ = some (.int .i64 0) := by rw [← hW]; simp [hcell, go_sem]
  have z3 : w2.cell? ⟨w.heap.size + 1 + 1, 3, none⟩ = some (.int .i64 0) := by rw [← hW]; simp [hcell, go_sem]
  have z4 : w2.cell? ⟨w.heap.size + 1 + 1, 4, none⟩ = some (.int .i64 0) := by rw [← hW]; simp [hcell, go_sem]
  have z5 : w2.cell? ⟨w.heap.size + 1 + 1, 5, none⟩ = some (.int .i64 0) := by rw [← hW]; simp [hcell, go_sem]
  have z6 : w2.cell? ⟨w.heap.size + 1 + 1, 6, none⟩ = some (.int .i64 0) := by rw [← hW]; simp [hcell, go_sem]
  have z7 : w2.cell? ⟨w.heap.size + 1 + 1, 7, none⟩ = some (.int .i64 0) := by rw [← hW]; simp [hcell, go_sem]
  have z8 : w2.cell? ⟨w.heap.size + 1 + 1, 8, none⟩ = some (.bool false) := by rw [← hW]; simp [hcell, go_sem]
  have z9 : w2.cell? ⟨w.heap.size + 1 + 1, 9, none⟩ = some (.int .i64 0) := by rw [← hW]; simp [hcell, go_sem]
  have f0 : w2.frozen? ⟨w.heap.size + 1 + 1, 0, none⟩ = false := by rw [← hW]; simp [hfr, go_sem]
  have f1 : w2.frozen? ⟨w.heap.size + 1 + 1, 1, none⟩ = false := by rw [← hW]; simp [hfr, go_sem]
  have f2 : w2.frozen? ⟨w.heap.size + 1 + 1, 2, none⟩ = false := by rw [← hW]; simp [hfr, go_sem]
  have f3 : w2.frozen? ⟨w.heap.size + 1 + 1, 3, none⟩ = false := by rw [← hW]; simp [hfr, go_sem]
  have f4 : w2.frozen? ⟨w.heap.size + 1 + 1, 4, none⟩ = false := by rw [← hW]; simp [hfr, go_sem]
  have f5 : w2.frozen? ⟨w.heap.size + 1 + 1, 5, none⟩ = false := by rw [← hW]; simp [hfr, go_sem]
  have f6 : w2.frozen? ⟨w.heap.size + 1 + 1, 6, none⟩ = false := by rw [← hW]; simp [hfr, go_sem]
  have f7 : w2.frozen? ⟨w.heap.size + 1 + 1, 7, none⟩ = false := by rw [← hW]; simp [hfr, go_sem]
  have f8 : w2.frozen? ⟨w.heap.size + 1 + 1, 8, none⟩ = false := by rw [← hW]; simp [hfr, go_sem]
  have f9 : w2.frozen? ⟨w.heap.size + 1 + 1, 9, none⟩ = false := by rw [← hW]; simp [hfr, go_sem]
  have hs' : w2.heap.size = w1.heap.size := by rw [← hW]; simp
  have y0 : w.heap.size < w2.heap.size := by omega
  have y1 : w.heap.size + 1 < w2.heap.size := by omega
  have y2 : w.heap.size + 1 + 1 < w2.heap.size := by omega
  have hbel2 : Below w.heap.size w w2 := by rw [← hW]; go_grown
  clear hW hcell hfr hbel hs hs' hz0 hz1 hz2 hb
  go_wp2
  refine bodyPost_ret (v := .tuple #[.agg #[.int .i64 0, .int .i64 0, .int .i64 0, .int .i64 0, .int .i64 0, .int .i64 0, .int .i64 0, .int .i64 0, .bool false, .int .i64 0], .int .i64 11]) (by simp [results, Try.results18, go_sem, *]) rfl ?_
  refine ⟨rfl, ?_⟩
  go_grown

set_option maxHeartbeats 1000000 in
theorem ready_over (A : Option Addr) (n cap : Nat) (inc delay : Int) (ps : List (Int × Int)) (l0 l1 m0 m1 p0 p1 turn since fallen : Int) (st : Bool) (now : Int) (want : Bool) (w : World) (hn : n ≤ 9223372036854775807) (hp : PerAt w w.heap.size A n ps) (hr : RuleOk n inc delay ps) (hk : ClkOk n l0 l1 m0 m1 p0 p1 turn since fallen) (e0 : witB now since 100000000 = true) (hf : 0 ≤ fallen) :
    Calls Try.prog 18 #[.agg #[.slice A n cap, .int .i64 inc, .int .i64 delay], .agg #[.int .i64 l0, .int .i64 l1, .int .i64 m0, .int .i64 m1, .int .i64 p0, .int .i64 p1, .int .i64 turn, .int .i64 since, .bool st, .int .i64 fallen], .int .i64 now, .bool want] w (fun e w' => e = .returned (.tuple #[.agg #[.int .i64 0, .int .i64 0, .int .i64 0, .int .i64 0, .int .i64 0, .int .i64 0, .int .i64 0, .int .i64 0, .bool false, .int .i64 0], .int .i64 14]) ∧ Below w.heap.size w w') := by
  have H := Lib.hid hr
  have HC := Lib.hid hk
  clear hr hk
  have hP := Lib.hid (((hp.alloc (.cells #[.slice A n cap, .int .i64 inc, .int .i64 delay] 24)).alloc (.cells #[.int .i64 l0, .int .i64 l1, .int .i64 m0, .int .i64 m1, .int .i64 p0, .int .i64 p1, .int .i64 turn, .int .i64 since, .bool st, .int .i64 fallen] 27)).alloc (.cells #[.int .i64 0, .int .i64 0, .int .i64 0, .int .i64 0, .int .i64 0, .int .i64 0, .int .i64 0, .int .i64 0, .bool false, .int .i64 0] 27))
  clear hp
  go_enter Try.func18, Try.ntmps18
  go_wp2_with fail
  refine (Look_over A n cap inc delay ps l0 l1 m0 m1 p0 p1 turn since fallen st now _ hn hP.out H.out HC.out e0 hf).mono ?_
  rintro e w1 ⟨rfl, hb⟩
  obtain ⟨hcell, hfr⟩ := bcell hb
  have hs := hb.size
  (try simp only [World.size_alloc] at hs)
  have hz0 : w.heap.size < w1.heap.size := by omega
  have hz1 : w.heap.size + 1 < w1.heap.size := by omega
  have hz2 : w.heap.size + 1 + 1 < w1.heap.size := by omega
  have hbel := ((((Below.refl w.heap.size w).alloc (by go_size) _).alloc (by go_size) _).alloc (by go_size) _).trans (hb.mono (by go_size))
  go_upto_region 2 with (fail)
  generalize hW : ((((((((((w1.setCell ⟨w.heap.size + 1, 0, none⟩ (.int .i64 l0)).setCell ⟨w.heap.size + 1, 1, none⟩ (.int .i64 l1)).setCell ⟨w.heap.size + 1, 2, none⟩ (.int .i64 m0)).setCell ⟨w.heap.size + 1, 3, none⟩ (.int .i64 m1)).setCell ⟨w.heap.size + 1, 4, none⟩ (.int .i64 p0)).setCell ⟨w.heap.size + 1, 5, none⟩ (.int .i64 p1)).setCell ⟨w.heap.size + 1, 6, none⟩ (.int .i64 turn)).setCell ⟨w.heap.size + 1, 7, none⟩ (.int .i64 since)).setCell ⟨w.heap.size + 1, 8, none⟩ (.bool st)).setCell ⟨w.heap.size + 1, 9, none⟩ (.int .i64 fallen)) = w2
  have r0 : w2.cell? ⟨w.heap.size, 0, none⟩ = some (.slice A n cap) := by rw [← hW]; simp [hcell, go_sem]
  have r1 : w2.cell? ⟨w.heap.size, 1, none⟩ = some (.int .i64 inc) := by rw [← hW]; simp [hcell, go_sem]
  have r2 : w2.cell? ⟨w.heap.size, 2, none⟩ = some (.int .i64 delay) := by rw [← hW]; simp [hcell, go_sem]
  have c0 : w2.cell? ⟨w.heap.size + 1, 0, none⟩ = some (.int .i64 l0) := by rw [← hW]; simp [hcell, go_sem]
  have c1 : w2.cell? ⟨w.heap.size + 1, 1, none⟩ = some (.int .i64 l1) := by rw [← hW]; simp [hcell, go_sem]
  have c2 : w2.cell? ⟨w.heap.size + 1, 2, none⟩ = some (.int .i64 m0) := by rw [← hW]; simp [hcell, go_sem]
  have c3 : w2.cell? ⟨w.heap.size + 1, 3, none⟩ = some (.int .i64 m1) := by rw [← hW]; simp [hcell, go_sem]
  have c4 : w2.cell? ⟨w.heap.size + 1, 4, none⟩ = some (.int .i64 p0) := by rw [← hW]; simp [hcell, go_sem]
  have c5 : w2.cell? ⟨w.heap.size + 1, 5, none⟩ = some (.int .i64 p1) := by rw [← hW]; simp [hcell, go_sem]
  have c6 : w2.cell? ⟨w.heap.size + 1, 6, none⟩ = some (.int .i64 turn) := by rw [← hW]; simp [hcell, go_sem]
  have c7 : w2.cell? ⟨w.heap.size + 1, 7, none⟩ = some (.int .i64 since) := by rw [← hW]; simp [hcell, go_sem]
  have c8 : w2.cell? ⟨w.heap.size + 1, 8, none⟩ = some (.bool st) := by rw [← hW]; simp [hcell, go_sem]
  have c9 : w2.cell? ⟨w.heap.size + 1, 9, none⟩ = some (.int .i64 fallen) := by rw [← hW]; simp [hcell, go_sem]
  have g0 : w2.frozen? ⟨w.heap.size + 1, 0, none⟩ = false := by rw [← hW]; simp [hfr, go_sem]
  have g1 : w2.frozen? ⟨w.heap.size + 1, 1, none⟩ = false := by rw [← hW]; simp [hfr, go_sem]
  have g2 : w2.frozen? ⟨w.heap.size + 1, 2, none⟩ = false := by rw [← hW]; simp [hfr, go_sem]
  have g3 : w2.frozen? ⟨w.heap.size + 1, 3, none⟩ = false := by rw [← hW]; simp [hfr, go_sem]
  have g4 : w2.frozen? ⟨w.heap.size + 1, 4, none⟩ = false := by rw [← hW]; simp [hfr, go_sem]
  have g5 : w2.frozen? ⟨w.heap.size + 1, 5, none⟩ = false := by rw [← hW]; simp [hfr, go_sem]
  have g6 : w2.frozen? ⟨w.heap.size + 1, 6, none⟩ = false := by rw [← hW]; simp [hfr, go_sem]
  have g7 : w2.frozen? ⟨w.heap.size + 1, 7, none⟩ = false := by rw [← hW]; simp [hfr, go_sem]
  have g8 : w2.frozen? ⟨w.heap.size + 1, 8, none⟩ = false := by rw [← hW]; simp [hfr, go_sem]
  have g9 : w2.frozen? ⟨w.heap.size + 1, 9, none⟩ = false := by rw [← hW]; simp [hfr, go_sem]
  have z0 : w2.cell? ⟨w.heap.size + 1 + 1, 0, none⟩ = some (.int .i64 0) := by rw [← hW]; simp [hcell, go_sem]
  have z1 : w2.cell? ⟨w.heap.size + 1 + 1, 1, none⟩ = some (.int .i64 0) := by rw [← hW]; simp [hcell, go_sem]
  have z2 : w2.cell? ⟨w.heap.size + 1 + 1, 2, none⟩ = some (.int .i64 0) := by rw [← hW]; simp [hcell, go_sem]
  have z3 : w2.cell? ⟨w.heap.size + 1 + 1, 3, none⟩ = some (.int .i64 0) := by rw [← hW]; simp [hcell, go_sem]
  have z4 : w2.cell? ⟨w.heap.size + 1 + 1, 4, none⟩ = some (.int .i64 0) := by rw [← hW]; simp [hcell, go_sem]
  have z5 : w2.cell? ⟨w.heap.size + 1 + 1, 5, none⟩ = some (.int .i64 0) := by rw [← hW]; simp [hcell, go_sem]
  have z6 : w2.cell? ⟨w.heap.size + 1 + 1, 6, none⟩ = some (.int .i64 0) := by rw [← hW]; simp [hcell, go_sem]
  have z7 : w2.cell? ⟨w.heap.size + 1 + 1, 7, none⟩ = some (.int .i64 0) := by rw [← hW]; simp [hcell, go_sem]
  have z8 : w2.cell? ⟨w.heap.size + 1 + 1, 8, none⟩ = some (.bool false) := by rw [← hW]; simp [hcell, go_sem]
  have z9 : w2.cell? ⟨w.heap.size + 1 + 1, 9, none⟩ = some (.int .i64 0) := by rw [← hW]; simp [hcell, go_sem]
  have f0 : w2.frozen? ⟨w.heap.size + 1 + 1, 0, none⟩ = false := by rw [← hW]; simp [hfr, go_sem]
  have f1 : w2.frozen? ⟨w.heap.size + 1 + 1, 1, none⟩ = false := by rw [← hW]; simp [hfr, go_sem]
  have f2 : w2.frozen? ⟨w.heap.size + 1 + 1, 2, none⟩ = false := by rw [← hW]; simp [hfr, go_sem]
  have f3 : w2.frozen? ⟨w.heap.size + 1 + 1, 3, none⟩ = false := by rw [← hW]; simp [hfr, go_sem]
  have f4 : w2.frozen? ⟨w.heap.size + 1 + 1, 4, none⟩ = false := by rw [← hW]; simp [hfr, go_sem]
  have f5 : w2.frozen? ⟨w.heap.size + 1 + 1, 5, none⟩ = false := by rw [← hW]; simp [hfr, go_sem]
  have f6 : w2.frozen? ⟨w.heap.size + 1 + 1, 6, none⟩ = false := by rw [← hW]; simp [hfr, go_sem]
  have f7 : w2.frozen? ⟨w.heap.size + 1 + 1, 7, none⟩ = false := by rw [← hW]; simp [hfr, go_sem]
  have f8 : w2.frozen? ⟨w.heap.size + 1 + 1, 8, none⟩ = false := by rw [← hW]; simp [hfr, go_sem]
  have f9 : w2.frozen? ⟨w.heap.size + 1 + 1, 9, none⟩ = false := by rw [← hW]; simp [hfr, go_sem]
  have hs' : w2.heap.size = w1.heap.size := by rw [← hW]; simp
  have y0 : w.heap.size < w2.heap.size := by omega
  have y1 : w.heap.size + 1 < w2.heap.size := by omega
  have y2 : w.heap.size + 1 + 1 < w2.heap.size := by omega
  have hbel2 : Below w.heap.size w w2 := by rw [← hW]; go_grown
  clear hW hcell hfr hbel hs hs' hz0 hz1 hz2 hb
  go_wp2
  refine bodyPost_ret (v := .tuple #[.agg #[.int .i64 0, .int .i64 0, .int .i64 0, .int .i64 0, .int .i64 0, .int .i64 0, .int .i64 0, .int .i64 0, .bool false, .int .i64 0], .int .i64 14]) (by simp [results, Try.results18, go_sem, *]) rfl ?_
  refine ⟨rfl, ?_⟩
  go_grown

set_option maxHeartbeats 1000000 in
theorem ready_fall_0 (A : Option Addr) (n cap : Nat) (inc delay : Int) (ps : List (Int × Int)) (l0 l1 m0 m1 p0 p1 since fallen : Int) (st : Bool) (now : Int) (want : Bool) (w : World) (hn : n ≤ 9223372036854775807) (hp : PerAt w w.heap.size A n ps) (hr : RuleOk n inc delay ps) (hk : ClkOk n l0 l1 m0 m1 p0 p1 0 since fallen) (e0 : witB now since 100000000 = true) (hf : fallen < 0) (hu : l0 < usedZ st delay since now) :
    Calls Try.prog 18 #[.agg #[.slice A n cap, .int .i64 inc, .int .i64 delay], .agg #[.int .i64 l0, .int .i64 l1, .int .i64 m0, .int .i64 m1, .int .i64 p0, .int .i64 p1, .int .i64 0, .int .i64 since, .bool st, .int .i64 fallen], .int .i64 now, .bool want] w (fun e w' => e = .returned (.tuple #[.agg #[.int .i64 0, .int .i64 0, .int .i64 0, .int .i64 0, .int .i64 0, .int .i64 0, .int .i64 0, .int .i64 0, .bool false, .int .i64 0], .int .i64 14]) ∧ Below w.heap.size w w') := by
  have H := Lib.hid hr
  have HC := Lib.hid hk
  clear hr hk
  have hP := Lib.hid (((hp.alloc (.cells #[.slice A n cap, .int .i64 inc, .int .i64 delay] 24)).alloc (.cells #[.int .i64 l0, .int .i64 l1, .int .i64 m0, .int .i64 m1, .int .i64 p0, .int .i64 p1, .int .i64 0, .int .i64 since, .bool st, .int .i64 fallen] 27)).alloc (.cells #[.int .i64 0, .int .i64 0, .int .i64 0, .int .i64 0, .int .i64 0, .int .i64 0, .int .i64 0, .int .i64 0, .bool false, .int .i64 0] 27))
  clear hp
  go_enter Try.func18, Try.ntmps18
  go_wp2_with fail
  refine (Look_fall_0 A n cap inc delay ps l0 l1 m0 m1 p0 p1 since fallen st now _ hn hP.out H.out HC.out e0 hf hu).mono ?_
  rintro e w1 ⟨rfl, hb⟩
  obtain ⟨hcell, hfr⟩ := bcell hb
  have hs := hb.size
  (try simp only [World.size_alloc] at hs)
  have hz0 : w.heap.size < w1.heap.size := by omega
  have hz1 : w.heap.size + 1 < w1.heap.size := by omega
  have hz2 : w.heap.size + 1 + 1 < w1.heap.size := by omega
  have hbel := ((((Below.refl w.heap.size w).alloc (by go_size) _).alloc (by go_size) _).alloc (by go_size) _).trans (hb.mono (by go_size))
  go_upto_region 2 with (fail)
  generalize hW : ((((((((((w1.setCell ⟨w.heap.size + 1, 0, none⟩ (.int .i64 0)).setCell ⟨w.heap.size + 1, 1, none⟩ (.int .i64 l1)).setCell ⟨w.heap.size + 1, 2, none⟩ (.int .i64 m0)).setCell ⟨w.heap.size + 1, 3, none⟩ (.int .i64 m1)).setCell ⟨w.heap.size + 1, 4, none⟩ (.int .i64 p0)).setCell ⟨w.heap.size + 1, 5, none⟩ (.int .i64 p1)).setCell ⟨w.heap.size + 1, 6, none⟩ (.int .i64 0)).setCell ⟨w.heap.size + 1, 7, none⟩ (.int .i64 since)).setCell ⟨w.heap.size + 1, 8, none⟩ (.bool st)).setCell ⟨w.heap.size + 1, 9, none⟩ (.int .i64 0)) = w2
  have r0 : w2.cell? ⟨w.heap.size, 0, none⟩ = some (.slice A n cap) := by rw [← hW]; simp [hcell, go_sem]
  have r1 : w2.cell? ⟨w.heap.size, 1, none⟩ = some (.int .i64 inc) := by rw [← hW]; simp [hcell, go_sem]
  have r2 : w2.cell? ⟨w.heap.size, 2, none⟩ = some (.int .i64 delay) := by rw [← hW]; simp [hcell, go_sem]
  have c0 : w2.cell? ⟨w.heap.size + 1, 0, none⟩ = some (.int .i64 0) := by rw [← hW]; simp [hcell, go_sem]
  have c1 : w2.cell? ⟨w.heap.size + 1, 1, none⟩ = some (.int .i64 l1) := by rw [← hW]; simp [hcell, go_sem]
  have c2 : w2.cell? ⟨w.heap.size + 1, 2, none⟩ = some (.int .i64 m0) := by rw [← hW]; simp [hcell, go_sem]
  have c3 : w2.cell? ⟨w.heap.size + 1, 3, none⟩ = some (.int .i64 m1) := by rw [← hW]; simp [hcell, go_sem]
  have c4 : w2.cell? ⟨w.heap.size + 1, 4, none⟩ = some (.int .i64 p0) := by rw [← hW]; simp [hcell, go_sem]
  have c5 : w2.cell? ⟨w.heap.size + 1, 5, none⟩ = some (.int .i64 p1) := by rw [← hW]; simp [hcell, go_sem]
  have c6 : w2.cell? ⟨w.heap.size + 1, 6, none⟩ = some (.int .i64 0) := by rw [← hW]; simp [hcell, go_sem]
  have c7 : w2.cell? ⟨w.heap.size + 1, 7, none⟩ = some (.int .i64 since) := by rw [← hW]; simp [hcell, go_sem]
  have c8 : w2.cell? ⟨w.heap.size + 1, 8, none⟩ = some (.bool st) := by rw [← hW]; simp [hcell, go_sem]
  have c9 : w2.cell? ⟨w.heap.size + 1, 9, none⟩ = some (.int .i64 0) := by rw [← hW]; simp [hcell, go_sem]
  have g0 : w2.frozen? ⟨w.heap.size + 1, 0, none⟩ = false := by rw [← hW]; simp [hfr, go_sem]
  have g1 : w2.frozen? ⟨w.heap.size + 1, 1, none⟩ = false := by rw [← hW]; simp [hfr, go_sem]
  have g2 : w2.frozen? ⟨w.heap.size + 1, 2, none⟩ = false := by rw [← hW]; simp [hfr, go_sem]
  have g3 : w2.frozen? ⟨w.heap.size + 1, 3, none⟩ = false := by rw [← hW]; simp [hfr, go_sem]
  have g4 : w2.frozen? ⟨w.heap.size + 1, 4, none⟩ = false := by rw [← hW]; simp [hfr, go_sem]
  have g5 : w2.frozen? ⟨w.heap.size + 1, 5, none⟩ = false := by rw [← hW]; simp [hfr, go_sem]
  have g6 : w2.frozen? ⟨w.heap.size + 1, 6, none⟩ = false := by rw [← hW]; simp [hfr, go_sem]
  have g7 : w2.frozen? ⟨w.heap.size + 1, 7, none⟩ = false := by rw [← hW]; simp [hfr, go_sem]
  have g8 : w2.frozen? ⟨w.heap.size + 1, 8, none⟩ = false := by rw [← hW]; simp [hfr, go_sem]
  have g9 : w2.frozen? ⟨w.heap.size + 1, 9, none⟩ = false := by rw [← hW]; simp [hfr, go_sem]
  have z0 : w2.cell? ⟨w.heap.size + 1 + 1, 0, none⟩ = some (.int .i64 0) := by rw [← hW]; simp [hcell, go_sem]
  have z1 : w2.cell? ⟨w.heap.size + 1 + 1, 1, none⟩ = some (.int .i64 0) := by rw [← hW]; simp [hcell, go_sem]
  have z2 : w2.cell? ⟨w.heap.size + 1 + 1, 2, none⟩ = some (.int .i64 0) := by rw [← hW]; simp [hcell, go_sem]
  have z3 : w2.cell? ⟨w.heap.size + 1 + 1, 3, none⟩ = some (.int .i64 0) := by rw [← hW]; simp [hcell, go_sem]
  have z4 : w2.cell? ⟨w.heap.size + 1 + 1, 4, none⟩ = some (.int .i64 0) := by rw [← hW]; simp [hcell, go_sem]
  have z5 : w2.cell? ⟨w.heap.size + 1 + 1, 5, none⟩ = some (.int .i64 0) := by rw [← hW]; simp [hcell, go_sem]
  have z6 : w2.cell? ⟨w.heap.size + 1 + 1, 6, none⟩ = some (.int .i64 0) := by rw [← hW]; simp [hcell, go_sem]
  have z7 : w2.cell? ⟨w.heap.size + 1 + 1, 7, none⟩ = some (.int .i64 0) := by rw [← hW]; simp [hcell, go_sem]
  have z8 : w2.cell? ⟨w.heap.size + 1 + 1, 8, none⟩ = some (.bool false) := by rw [← hW]; simp [hcell, go_sem]
  have z9 : w2.cell? ⟨w.heap.size + 1 + 1, 9, none⟩ = some (.int .i64 0) := by rw [← hW]; simp [hcell, go_sem]
  have f0 : w2.frozen? ⟨w.heap.size + 1 + 1, 0, none⟩ = false := by rw [← hW]; simp [hfr, go_sem]
  have f1 : w2.frozen? ⟨w.heap.size + 1 + 1, 1, none⟩ = false := by rw [← hW]; simp [hfr, go_sem]
  have f2 : w2.frozen? ⟨w.heap.size + 1 + 1, 2, none⟩ = false := by rw [← hW]; simp [hfr, go_sem]
  have f3 : w2.frozen? ⟨w.heap.size + 1 + 1, 3, none⟩ = false := by rw [← hW]; simp [hfr, go_sem]
  have f4 : w2.frozen? ⟨w.heap.size + 1 + 1, 4, none⟩ = false := by rw [← hW]; simp [hfr, go_sem]
  have f5 : w2.frozen? ⟨w.heap.size + 1 + 1, 5, none⟩ = false := by rw [← hW]; simp [hfr, go_sem]
  have f6 : w2.frozen? ⟨w.heap.size + 1 + 1, 6, none⟩ = false := by rw [← hW]; simp [hfr, go_sem]
  have f7 : w2.frozen? ⟨w.heap.size + 1 + 1, 7, none⟩ = false := by rw [← hW]; simp [hfr, go_sem]
  have f8 : w2.frozen? ⟨w.heap.size + 1 + 1, 8, none⟩ = false := by rw [← hW]; simp [hfr, go_sem]
  have f9 : w2.frozen? ⟨w.heap.size + 1 + 1, 9, none⟩ = false := by rw [← hW]; simp [hfr, go_sem]
  have hs' : w2.heap.size = w1.heap.size := by rw [← hW]; simp
  have y0 : w.heap.size < w2.heap.size := by omega
  have y1 : w.heap.size + 1 < w2.heap.size := by omega
  have y2 : w.heap.size + 1 + 1 < w2.heap.size := by omega
  have hbel2 : Below w.heap.size w w2 := by rw [← hW]; go_grown
  clear hW hcell hfr hbel hs hs' hz0 hz1 hz2 hb
  go_wp2
  refine bodyPost_ret (v := .tuple #[.agg #[.int .i64 0, .int .i64 0, .int .i64 0, .int .i64 0, .int .i64 0, .int .i64 0, .int .i64 0, .int .i64 0, .bool false, .int .i64 0], .int .i64 14]) (by simp [results, Try.results18, go_sem, *]) rfl ?_
  refine ⟨rfl, ?_⟩
  go_grown

set_option maxHeartbeats 1000000 in
theorem ready_ok_0_true (A : Option Addr) (n cap : Nat) (inc delay : Int) (ps : List (Int × Int)) (l0 l1 m0 m1 p0 p1 since fallen : Int) (now : Int) (w : World) (hn : n ≤ 9223372036854775807) (hp : PerAt w w.heap.size A n ps) (hr : RuleOk n inc delay ps) (hk : ClkOk n l0 l1 m0 m1 p0 p1 0 since fallen) (e0 : witB now since 100000000 = true) (hf : fallen < 0) (hu : usedZ true delay since now ≤ l0) :
    Calls Try.prog 18 #[.agg #[.slice A n cap, .int .i64 inc, .int .i64 delay], .agg #[.int .i64 l0, .int .i64 l1, .int .i64 m0, .int .i64 m1, .int .i64 p0, .int .i64 p1, .int .i64 0, .int .i64 since, .bool true, .int .i64 fallen], .int .i64 now, .bool true] w (fun e w' => e = .returned (.tuple #[.agg #[.int .i64 l0, .int .i64 l1, .int .i64 m0, .int .i64 m1, .int .i64 p0, .int .i64 p1, .int .i64 0, .int .i64 since, .bool true, .int .i64 fallen], .int .i64 0]) ∧ Below w.heap.size w w') := by
  have H := Lib.hid hr
  have HC := Lib.hid hk
  clear hr hk
  have hP := Lib.hid (((hp.alloc (.cells #[.slice A n cap, .int .i64 inc, .int .i64 delay] 24)).alloc (.cells #[.int .i64 l0, .int .i64 l1, .int .i64 m0, .int .i64 m1, .int .i64 p0, .int .i64 p1, .int .i64 0, .int .i64 since, .bool true, .int .i64 fallen] 27)).alloc (.cells #[.int .i64 0, .int .i64 0, .int .i64 0, .int .i64 0, .int .i64 0, .int .i64 0, .int .i64 0, .int .i64 0, .bool false, .int .i64 0] 27))
  clear hp
  go_enter Try.func18, Try.ntmps18
  go_wp2_with fail
  refine (Look_stay_0 A n cap inc delay ps l0 l1 m0 m1 p0 p1 since fallen true now _ hn hP.out H.out HC.out e0 hf hu).mono ?_
  rintro e w1 ⟨rfl, hb⟩
  obtain ⟨hcell, hfr⟩ := bcell hb
  have hs := hb.size
  (try simp only [World.size_alloc] at hs)
  have hz0 : w.heap.size < w1.heap.size := by omega
  have hz1 : w.heap.size + 1 < w1.heap.size := by omega
  have hz2 : w.heap.size + 1 + 1 < w1.heap.size := by omega
  have hbel := ((((Below.refl w.heap.size w).alloc (by go_size) _).alloc (by go_size) _).alloc (by go_size) _).trans (hb.mono (by go_size))
  go_upto_region 2 with (fail)
  generalize hW : ((((((((((w1.setCell ⟨w.heap.size + 1, 0, none⟩ (.int .i64 l0)).setCell ⟨w.heap.size + 1, 1, none⟩ (.int .i64 l1)).setCell ⟨w.heap.size + 1, 2, none⟩ (.int .i64 m0)).setCell ⟨w.heap.size + 1, 3, none⟩ (.int .i64 m1)).setCell ⟨w.heap.size + 1, 4, none⟩ (.int .i64 p0)).setCell ⟨w.heap.size + 1, 5, none⟩ (.int .i64 p1)).setCell ⟨w.heap.size + 1, 6, none⟩ (.int .i64 0)).setCell ⟨w.heap.size + 1, 7, none⟩ (.int .i64 since)).setCell ⟨w.heap.size + 1, 8, none⟩ (.bool true)).setCell ⟨w.heap.size + 1, 9, none⟩ (.int .i64 fallen)) = w2
  have r0 : w2.cell? ⟨w.heap.size, 0, none⟩ = some (.slice A n cap) := by rw [← hW]; simp [hcell, go_sem]
  have r1 : w2.cell? ⟨w.heap.size, 1, none⟩ = some (.int .i64 inc) := by rw [← hW]; simp [hcell, go_sem]
  have r2 : w2.cell? ⟨w.heap.size, 2, none⟩ = some (.int .i64 delay) := by rw [← hW]; simp [hcell, go_sem]
  have c0 : w2.cell? ⟨w.heap.size + 1, 0, none⟩ = some (.int .i64 l0) := by rw [← hW]; simp [hcell, go_sem]
  have c1 : w2.cell? ⟨w.heap.size + 1, 1, none⟩ = some (.int .i64 l1) := by rw [← hW]; simp [hcell, go_sem]
  have c2 : w2.cell? ⟨w.heap.size + 1, 2, none⟩ = some (.int .i64 m0) := by rw [← hW]; simp [hcell, go_sem]
  have c3 : w2.cell? ⟨w.heap.size + 1, 3, none⟩ = some (.int .i64 m1) := by rw [← hW]; simp [hcell, go_sem]
  have c4 : w2.cell? ⟨w.heap.size + 1, 4, none⟩ = some (.int .i64 p0) := by rw [← hW]; simp [hcell, go_sem]
  have c5 : w2.cell? ⟨w.heap.size + 1, 5, none⟩ = some (.int .i64 p1) := by rw [← hW]; simp [hcell, go_sem]
  have c6 : w2.cell? ⟨w.heap.size + 1, 6, none⟩ = some (.int .i64 0) := by rw [← hW]; simp [hcell, go_sem]
  have c7 : w2.cell? ⟨w.heap.size + 1, 7, none⟩ = some (.int .i64 since) := by rw [← hW]; simp [hcell, go_sem]
  have c8 : w2.cell? ⟨w.heap.size + 1, 8, none⟩ = some (.bool true) := by rw [← hW]; simp [hcell, go_sem]
  have c9 : w2.cell? ⟨w.heap.size + 1, 9, none⟩ = some (.int .i64 fallen) := by rw [← hW]; simp [hcell, go_sem]
  have g0 : w2.frozen? ⟨w.heap.size + 1, 0, none⟩ = false := by rw [← hW]; simp [hfr, go_sem]
  have g1 : w2.frozen? ⟨w.heap.size + 1, 1, none⟩ = false := by rw [← hW]; simp [hfr, go_sem]
  have g2 : w2.frozen? ⟨w.heap.size + 1, 2, none⟩ = false := by rw [← hW]; simp [hfr, go_sem]
  have g3 : w2.frozen? ⟨w.heap.size + 1, 3, none⟩ = false := by rw [← hW]; simp [hfr, go_sem]
  have g4 : w2.frozen? ⟨w.heap.size + 1, 4, none⟩ = false := by rw [← hW]; simp [hfr, go_sem]
  have g5 : w2.frozen? ⟨w.heap.size + 1, 5, none⟩ = false := by rw [← hW]; simp [hfr, go_sem]
  have g6 : w2.frozen? ⟨w.heap.size + 1, 6, none⟩ = false := by rw [← hW]; simp [hfr, go_sem]
  have g7 : w2.frozen? ⟨w.heap.size + 1, 7, none⟩ = false := by rw [← hW]; simp [hfr, go_sem]
  have g8 : w2.frozen? ⟨w.heap.size + 1, 8, none⟩ = false := by rw [← hW]; simp [hfr, go_sem]
  have g9 : w2.frozen? ⟨w.heap.size + 1, 9, none⟩ = false := by rw [← hW]; simp [hfr, go_sem]
  have z0 : w2.cell? ⟨w.heap.size + 1 + 1, 0, none⟩ = some (.int .i64 0) := by rw [← hW]; simp [hcell, go_sem]
  have z1 : w2.cell? ⟨w.heap.size + 1 + 1, 1, none⟩ = some (.int .i64 0) := by rw [← hW]; simp [hcell, go_sem]
  have z2 : w2.cell? ⟨w.heap.size + 1 + 1, 2, none⟩ = some (.int .i64 0) := by rw [← hW]; simp [hcell, go_sem]
  have z3 : w2.cell? ⟨w.heap.size + 1 + 1, 3, none⟩ = some (.int .i64 0) := by rw [← hW]; simp [hcell, go_sem]
  have z4 : w2.cell? ⟨w.heap.size + 1 + 1, 4, none⟩ = some (.int .i64 0) := by rw [← hW]; simp [hcell, go_sem]
  have z5 : w2.cell? ⟨w.heap.size + 1 + 1, 5, none⟩ = some (.int .i64 0) := by rw [← hW]; simp [hcell, go_sem]
  have z6 : w2.cell? ⟨w.heap.size + 1 + 1, 6, none⟩ = some (.int .i64 0) := by rw [← hW]; simp [hcell, go_sem]
  have z7 : w2.cell? ⟨w.heap.size + 1 + 1, 7, none⟩ = some (.int .i64 0) := by rw [← hW]; simp [hcell, go_sem]
  have z8 : w2.cell? ⟨w.heap.size + 1 + 1, 8, none⟩ = some (.bool false) := by rw [← hW]; simp [hcell, go_sem]
  have z9 : w2.cell? ⟨w.heap.size + 1 + 1, 9, none⟩ = some (.int .i64 0) := by rw [← hW]; simp [hcell, go_sem]
  have f0 : w2.frozen? ⟨w.heap.size + 1 + 1, 0, none⟩ = false := by rw [← hW]; simp [hfr, go_sem]
  have f1 : w2.frozen? ⟨w.heap.size + 1 + 1, 1, none⟩ = false := by rw [← hW]; simp [hfr, go_sem]
  have f2 : w2.frozen? ⟨w.heap.size + 1 + 1, 2, none⟩ = false := by rw [← hW]; simp [hfr, go_sem]
  have f3 : w2.frozen? ⟨w.heap.size + 1 + 1, 3, none⟩ = false := by rw [← hW]; simp [hfr, go_sem]
  have f4 : w2.frozen? ⟨w.heap.size + 1 + 1, 4, none⟩ = false := by rw [← hW]; simp [hfr, go_sem]
  have f5 : w2.frozen? ⟨w.heap.size + 1 + 1, 5, none⟩ = false := by rw [← hW]; simp [hfr, go_sem]
  have f6 : w2.frozen? ⟨w.heap.size + 1 + 1, 6, none⟩ = false := by rw [← hW]; simp [hfr, go_sem]
  have f7 : w2.frozen? ⟨w.heap.size + 1 + 1, 7, none⟩ = false := by rw [← hW]; simp [hfr, go_sem]
  have f8 : w2.frozen? ⟨w.heap.size + 1 + 1, 8, none⟩ = false := by rw [← hW]; simp [hfr, go_sem]
  have f9 : w2.frozen? ⟨w.heap.size + 1 + 1, 9, none⟩ = false := by rw [← hW]; simp [hfr, go_sem]
  have hs' : w2.heap.size = w1.heap.size := by rw [← hW]; simp
  have y0 : w.heap.size < w2.heap.size := by omega
  have y1 : w.heap.size + 1 < w2.heap.size := by omega
  have y2 : w.heap.size + 1 + 1 < w2.heap.size := by omega
  have hbel2 : Below w.heap.size w w2 := by rw [← hW]; go_grown
  clear hW hcell hfr hbel hs hs' hz0 hz1 hz2 hb
  go_wp2
  refine bodyPost_ret (v := .tuple #[.agg #[.int .i64 l0, .int .i64 l1, .int .i64 m0, .int .i64 m1, .int .i64 p0, .int .i64 p1, .int .i64 0, .int .i64 since, .bool true, .int .i64 fallen], .int .i64 0]) (by simp [results, Try.results18, go_sem, *]) rfl ?_
  refine ⟨rfl, ?_⟩
  go_grown

set_option maxHeartbeats 1000000 in
theorem ready_ok_0_false (A : Option Addr) (n cap : Nat) (inc delay : Int) (ps : List (Int × Int)) (l0 l1 m0 m1 p0 p1 since fallen : Int) (now : Int) (w : World) (hn : n ≤ 9223372036854775807) (hp : PerAt w w.heap.size A n ps) (hr : RuleOk n inc delay ps) (hk : ClkOk n l0 l1 m0 m1 p0 p1 0 since fallen) (e0 : witB now since 100000000 = true) (hf : fallen < 0) (hu : usedZ false delay since now ≤ l0) :
    Calls Try.prog 18 #[.agg #[.slice A n cap, .int .i64 inc, .int .i64 delay], .agg #[.int .i64 l0, .int .i64 l1, .int .i64 m0, .int .i64 m1, .int .i64 p0, .int .i64 p1, .int .i64 0, .int .i64 since, .bool false, .int .i64 fallen], .int .i64 now, .bool false] w (fun e w' => e = .returned (.tuple #[.agg #[.int .i64 l0, .int .i64 l1, .int .i64 m0, .int .i64 m1, .int .i64 p0, .int .i64 p1, .int .i64 0, .int .i64 since, .bool false, .int .i64 fallen], .int .i64 0]) ∧ Below w.heap.size w w') := by
  have H := Lib.hid hr
  have HC := Lib.hid hk
  clear hr hk
  have hP := Lib.hid (((hp.alloc (.cells #[.slice A n cap, .int .i64 inc, .int .i64 delay] 24)).alloc (.cells #[.int .i64 l0, .int .i64 l1, .int .i64 m0, .int .i64 m1, .int .i64 p0, .int .i64 p1, .int .i64 0, .int .i64 since, .bool false, .int .i64 fallen] 27)).alloc (.cells #[.int .i64 0, .int .i64 0, .int .i64 0, .int .i64 0, .int .i64 0, .int .i64 0, .int .i64 0, .int .i64 0, .bool false, .int .i64 0] 27))
  clear hp
  go_enter Try.func18, Try.ntmps18
  go_wp2_with fail
  refine (Look_stay_0 A n cap inc delay ps l0 l1 m0 m1 p0 p1 since fallen false now _ hn hP.out H.out HC.out e0 hf hu).mono ?_
  rintro e w1 ⟨rfl, hb⟩
  obtain ⟨hcell, hfr⟩ := bcell hb
  have hs := hb.size
  (try simp only [World.size_alloc] at hs)
  have hz0 : w.heap.size < w1.heap.size := by omega
  have hz1 : w.heap.size + 1 < w1.heap.size := by omega
  have hz2 : w.heap.size + 1 + 1 < w1.heap.size := by omega
  have hbel := ((((Below.refl w.heap.size w).alloc (by go_size) _).alloc (by go_size) _).alloc (by go_size) _).trans (hb.mono (by go_size))
  go_upto_region 2 with (fail)
  generalize hW : ((((((((((w1.setCell ⟨w.heap.size + 1, 0, none⟩ (.int .i64 l0)).setCell ⟨w.heap.size + 1, 1, none⟩ (.int .i64 l1)).setCell ⟨w.heap.size + 1, 2, none⟩ (.int .i64 m0)).setCell ⟨w.heap.size + 1, 3, none⟩ (.int .i64 m1)).setCell ⟨w.heap.size + 1, 4, none⟩ (.int .i64 p0)).setCell ⟨w.heap.size + 1, 5, none⟩ (.int .i64 p1)).setCell ⟨w.heap.size + 1, 6, none⟩ (.int .i64 0)).setCell ⟨w.heap.size + 1, 7, none⟩ (.int .i64 since)).setCell ⟨w.heap.size + 1, 8, none⟩ (.bool false)).setCell ⟨w.heap.size + 1, 9, none⟩ (.int .i64 fallen)) = w2
  have r0 : w2.cell? ⟨w.heap.size, 0, none⟩ = some (.slice A n cap) := by rw [← hW]; simp [hcell, go_sem]
  have r1 : w2.cell? ⟨w.heap.size, 1, none⟩ = some (.int .i64 inc) := by rw [← hW]; simp [hcell, go_sem]
  have r2 : w2.cell? ⟨w.heap.size, 2, none⟩ = some (.int .i64 delay) := by rw [← hW]; simp [hcell, go_sem]
  have c0 : w2.cell? ⟨w.heap.size + 1, 0, none⟩ = some (.int .i64 l0) := by rw [← hW]; simp [hcell, go_sem]
  have c1 : w2.cell? ⟨w.heap.size + 1, 1, none⟩ = some (.int .i64 l1) := by rw [← hW]; simp [hcell, go_sem]
  have c2 : w2.cell? ⟨w.heap.size + 1, 2, none⟩ = some (.int .i64 m0) := by rw [← hW]; simp [hcell, go_sem]
  have c3 : w2.cell? ⟨w.heap.size + 1, 3, none⟩ = some (.int .i64 m1) := by rw [← hW]; simp [hcell, go_sem]
  have c4 : w2.cell? ⟨w.heap.size + 1, 4, none⟩ = some (.int .i64 p0) := by rw [← hW]; simp [hcell, go_sem]
  have c5 : w2.cell? ⟨w.heap.size + 1, 5, none⟩ = some (.int .i64 p1) := by rw [← hW]; simp [hcell, go_sem]
  have c6 : w2.cell? ⟨w.heap.size + 1, 6, none⟩ = some (.int .i64 0) := by rw [← hW]; simp [hcell, go_sem]
  have c7 : w2.cell? ⟨w.heap.size + 1, 7, none⟩ = some (.int .i64 since) := by rw [← hW]; simp [hcell, go_sem]
  have c8 : w2.cell? ⟨w.heap.size + 1, 8, none⟩ = some (.bool false) := by rw [← hW]; simp [hcell, go_sem]
  have c9 : w2.cell? ⟨w.heap.size + 1, 9, none⟩ = some (.int .i64 fallen) := by rw [← hW]; simp [hcell, go_sem]
  have g0 : w2.frozen? ⟨w.heap.size + 1, 0, none⟩ = false := by rw [← hW]; simp [hfr, go_sem]
  have g1 : w2.frozen? ⟨w.heap.size + 1, 1, none⟩ = false := by rw [← hW]; simp [hfr, go_sem]
  have g2 : w2.frozen? ⟨w.heap.size + 1, 2, none⟩ = false := by rw [← hW]; simp [hfr, go_sem]
  have g3 : w2.frozen? ⟨w.heap.size + 1, 3, none⟩ = false := by rw [← hW]; simp [hfr, go_sem]
  have g4 : w2.frozen? ⟨w.heap.size + 1, 4, none⟩ = false := by rw [← hW]; simp [hfr, go_sem]
  have g5 : w2.frozen? ⟨w.heap.size + 1, 5, none⟩ = false := by rw [← hW]; simp [hfr, go_sem]
  have g6 : w2.frozen? ⟨w.heap.size + 1, 6, none⟩ = false := by rw [← hW]; simp [hfr, go_sem]
  have g7 : w2.frozen? ⟨w.heap.size + 1, 7, none⟩ = false := by rw [← hW]; simp [hfr, go_sem]
  have g8 : w2.frozen? ⟨w.heap.size + 1, 8, none⟩ = false := by rw [← hW]; simp [hfr, go_sem]
  have g9 : w2.frozen? ⟨w.heap.size + 1, 9, none⟩ = false := by rw [← hW]; simp [hfr, go_sem]
  have z0 : w2.cell? ⟨w.heap.size + 1 + 1, 0, none⟩ = some (.int .i64 0) := by rw [← hW]; simp [hcell, go_sem]
  have z1 : w2.cell? ⟨w.heap.size + 1 + 1, 1, none⟩ = some (.int .i64 0) := by rw [← hW]; simp [hcell, go_sem]
  have z2 : w2.cell? ⟨w.heap.size + 1 + 1, 2, none⟩ = some (.int .i64 0) := by rw [← hW]; simp [hcell, go_sem]
  have z3 : w2.cell? ⟨w.heap.size + 1 + 1, 3, none⟩ = some (.int .i64 0) := by rw [← hW]; simp [hcell, go_sem]
  have z4 : w2.cell? ⟨w.heap.size + 1 + 1, 4, none⟩ = some (.int .i64 0) := by rw [← hW]; simp [hcell, go_sem]
  have z5 : w2.cell? ⟨w.heap.size + 1 + 1, 5, none⟩ = some (.int .i64 0) := by rw [← hW]; simp [hcell, go_sem]
  have z6 : w2.cell? ⟨w.heap.size + 1 + 1, 6, none⟩ = some (.int .i64 0) := by rw [← hW]; simp [hcell, go_sem]
  have z7 : w2.cell? ⟨w.heap.size + 1 + 1, 7, none⟩ = some (.int .i64 0) := by rw [← hW]; simp [hcell, go_sem]
  have z8 : w2.cell? ⟨w.heap.size + 1 + 1, 8, none⟩ = some (.bool false) := by rw [← hW]; simp [hcell, go_sem]
  have z9 : w2.cell? ⟨w.heap.size + 1 + 1, 9, none⟩ = some (.int .i64 0) := by rw [← hW]; simp [hcell, go_sem]
  have f0 : w2.frozen? ⟨w.heap.size + 1 + 1, 0, none⟩ = false := by rw [← hW]; simp [hfr, go_sem]
  have f1 : w2.frozen? ⟨w.heap.size + 1 + 1, 1, none⟩ = false := by rw [← hW]; simp [hfr, go_sem]
  have f2 : w2.frozen? ⟨w.heap.size + 1 + 1, 2, none⟩ = false := by rw [← hW]; simp [hfr, go_sem]
  have f3 : w2.frozen? ⟨w.heap.size + 1 + 1, 3, none⟩ = false := by rw [← hW]; simp [hfr, go_sem]
  have f4 : w2.frozen? ⟨w.heap.size + 1 + 1, 4, none⟩ = false := by rw [← hW]; simp [hfr, go_sem]
  have f5 : w2.frozen? ⟨w.heap.size + 1 + 1, 5, none⟩ = false := by rw [← hW]; simp [hfr, go_sem]
  have f6 : w2.frozen? ⟨w.heap.size + 1 + 1, 6, none⟩ = false := by rw [← hW]; simp [hfr, go_sem]
  have f7 : w2.frozen? ⟨w.heap.size + 1 + 1, 7, none⟩ = false := by rw [← hW]; simp [hfr, go_sem]
  have f8 : w2.frozen? ⟨w.heap.size + 1 + 1, 8, none⟩ = false := by rw [← hW]; simp [hfr, go_sem]
  have f9 : w2.frozen? ⟨w.heap.size + 1 + 1, 9, none⟩ = false := by rw [← hW]; simp [hfr, go_sem]
  have hs' : w2.heap.size = w1.heap.size := by rw [← hW]; simp
  have y0 : w.heap.size < w2.heap.size := by omega
  have y1 : w.heap.size + 1 < w2.heap.size := by omega
  have y2 : w.heap.size + 1 + 1 < w2.heap.size := by omega
  have hbel2 : Below w.heap.size w w2 := by rw [← hW]; go_grown
  clear hW hcell hfr hbel hs hs' hz0 hz1 hz2 hb
  go_wp2
  refine bodyPost_ret (v := .tuple #[.agg #[.int .i64 l0, .int .i64 l1, .int .i64 m0, .int .i64 m1, .int .i64 p0, .int .i64 p1, .int .i64 0, .int .i64 since, .bool false, .int .i64 fallen], .int .i64 0]) (by simp [results, Try.results18, go_sem, *]) rfl ?_
  refine ⟨rfl, ?_⟩
  go_grown

set_option maxHeartbeats 1000000 in
theorem ready_state_0_false (A : Option Addr) (n cap : Nat) (inc delay : Int) (ps : List (Int × Int)) (l0 l1 m0 m1 p0 p1 since fallen : Int) (now : Int) (w : World) (hn : n ≤ 9223372036854775807) (hp : PerAt w w.heap.size A n ps) (hr : RuleOk n inc delay ps) (hk : ClkOk n l0 l1 m0 m1 p0 p1 0 since fallen) (e0 : witB now since 100000000 = true) (hf : fallen < 0) (hu : usedZ true delay since now ≤ l0) :
    Calls Try.prog 18 #[.agg #[.slice A n cap, .int .i64 inc, .int .i64 delay], .agg #[.int .i64 l0, .int .i64 l1, .int .i64 m0, .int .i64 m1, .int .i64 p0, .int .i64 p1, .int .i64 0, .int .i64 since, .bool true, .int .i64 fallen], .int .i64 now, .bool false] w (fun e w' => e = .returned (.tuple #[.agg #[.int .i64 0, .int .i64 0, .int .i64 0, .int .i64 0, .int .i64 0, .int .i64 0, .int .i64 0, .int .i64 0, .bool false, .int .i64 0], .int .i64 10]) ∧ Below w.heap.size w w') := by
  have H := Lib.hid hr
  have HC := Lib.hid hk
  clear hr hk
  have hP := Lib.hid (((hp.alloc (.cells #[.slice A n cap, .int .i64 inc, .int .i64 delay] 24)).alloc (.cells #[.int .i64 l0, .int .i64 l1, .int .i64 m0, .int .i64 m1, .int .i64 p0, .int .i64 p1, .int .i64 0, .int .i64 since, .bool true, .int .i64 fallen] 27)).alloc (.cells #[.int .i64 0, .int .i64 0, .int .i64 0, .int .i64 0, .int .i64 0, .int .i64 0, .int .i64 0, .int .i64 0, .bool false, .int .i64 0] 27))
  clear hp
  go_enter Try.func18, Try.ntmps18
  go_wp2_with fail
  refine (Look_stay_0 A n cap inc delay ps l0 l1 m0 m1 p0 p1 since fallen true now _ hn hP.out H.out HC.out e0 hf hu).mono ?_
  rintro e w1 ⟨rfl, hb⟩
  obtain ⟨hcell, hfr⟩ := bcell hb
  have hs := hb.size
  (try simp only [World.size_alloc] at hs)
  have hz0 : w.heap.size < w1.heap.size := by omega
  have hz1 : w.heap.size + 1 < w1.heap.size := by omega
  have hz2 : w.heap.size + 1 + 1 < w1.heap.size := by omega
  have hbel := ((((Below.refl w.heap.size w).alloc (by go_size) _).alloc (by go_size) _).alloc (by go_size) _).trans (hb.mono (by go_size))
  go_upto_region 2 with (fail)
  generalize hW : ((((((((((w1.setCell ⟨w.heap.size + 1, 0, none⟩ (.int .i64 l0)).setCell ⟨w.heap.size + 1, 1, none⟩ (.int .i64 l1)).setCell ⟨w.heap.size + 1, 2, none⟩ (.int .i64 m0)).setCell ⟨w.heap.size + 1, 3, none⟩ (.int .i64 m1)).setCell ⟨w.heap.size + 1, 4, none⟩ (.int .i64 p0)).setCell ⟨w.heap.size + 1, 5, none⟩ (.int .i64 p1)).setCell ⟨w.heap.size + 1, 6, none⟩ (.int .i64 0)).setCell ⟨w.heap.size + 1, 7, none⟩ (.int .i64 since)).setCell ⟨w.heap.size + 1, 8, none⟩ (.bool true)).setCell ⟨w.heap.size + 1, 9, none⟩ (.int .i64 fallen)) = w2
  have r0 : w2.cell? ⟨w.heap.size, 0, none⟩ = some (.slice A n cap) := by rw [← hW]; simp [hcell, go_sem]
  have r1 : w2.cell? ⟨w.heap.size, 1, none⟩ = some (.int .i64 inc) := by rw [← hW]; simp [hcell, go_sem]
  have r2 : w2.cell? ⟨w.heap.size, 2, none⟩ = some (.int .i64 delay) := by rw [← hW]; simp [hcell, go_sem]
  have c0 : w2.cell? ⟨w.heap.size + 1, 0, none⟩ = some (.int .i64 l0) := by rw [← hW]; simp [hcell, go_sem]
  have c1 : w2.cell? ⟨w.heap.size + 1, 1, none⟩ = some (.int .i64 l1) := by rw [← hW]; simp [hcell, go_sem]
  have c2 : w2.cell? ⟨w.heap.size + 1, 2, none⟩ = some (.int .i64 m0) := by rw [← hW]; simp [hcell, go_sem]
  have c3 : w2.cell? ⟨w.heap.size + 1, 3, none⟩ = some (.int .i64 m1) := by rw [← hW]; simp [hcell, go_sem]
  have c4 : w2.cell? ⟨w.heap.size + 1, 4, none⟩ = some (.int .i64 p0) := by rw [← hW]; simp [hcell, go_sem]
  have c5 : w2.cell? ⟨w.heap.size + 1, 5, none⟩ = some (.int .i64 p1) := by rw [← hW]; simp [hcell, go_sem]
  have c6 : w2.cell? ⟨w.heap.size + 1, 6, none⟩ = some (.int .i64 0) := by rw [← hW]; simp [hcell, go_sem]
  have c7 : w2.cell? ⟨w.heap.size + 1, 7, none⟩ = some (.int .i64 since) := by rw [← hW]; simp [hcell, go_sem]
  have c8 : w2.cell? ⟨w.heap.size + 1, 8, none⟩ = some (.bool true) := by rw [← hW]; simp [hcell, go_sem]
  have c9 : w2.cell? ⟨w.heap.size + 1, 9, none⟩ = some (.int .i64 fallen) := by rw [← hW]; simp [hcell, go_sem]
  have g0 : w2.frozen? ⟨w.heap.size + 1, 0, none⟩ = false := by rw [← hW]; simp [hfr, go_sem]
  have g1 : w2.frozen? ⟨w.heap.size + 1, 1, none⟩ = false := by rw [← hW]; simp [hfr, go_sem]
  have g2 : w2.frozen? ⟨w.heap.size + 1, 2, none⟩ = false := by rw [← hW]; simp [hfr, go_sem]
  have g3 : w2.frozen? ⟨w.heap.size + 1, 3, none⟩ = false := by rw [← hW]; simp [hfr, go_sem]
  have g4 : w2.frozen? ⟨w.heap.size + 1, 4, none⟩ = false := by rw [← hW]; simp [hfr, go_sem]
  have g5 : w2.frozen? ⟨w.heap.size + 1, 5, none⟩ = false := by rw [← hW]; simp [hfr, go_sem]
  have g6 : w2.frozen? ⟨w.heap.size + 1, 6, none⟩ = false := by rw [← hW]; simp [hfr, go_sem]
  have g7 : w2.frozen? ⟨w.heap.size + 1, 7, none⟩ = false := by rw [← hW]; simp [hfr, go_sem]
  have g8 : w2.frozen? ⟨w.heap.size + 1, 8, none⟩ = false := by rw [← hW]; simp [hfr, go_sem]
  have g9 : w2.frozen? ⟨w.heap.size + 1, 9, none⟩ = false := by rw [← hW]; simp [hfr, go_sem]
  have z0 : w2.cell? ⟨w.heap.size + 1 + 1, 0, none⟩ = some (.int .i64 0) := by rw [← hW]; simp [hcell, go_sem]
  have z1 : w2.cell? ⟨w.heap.size + 1 + 1, 1, none⟩ = some (.int .i64 0) := by rw [← hW]; simp [hcell, go_sem]
  have z2 : w2.cell? ⟨w.heap.size + 1 + 1, 2, none⟩ = some (.int .i64 0) := by rw [← hW]; simp [hcell, go_sem]
  have z3 : w2.cell? ⟨w.heap.size + 1 + 1, 3, none⟩ = some (.int .i64 0) := by rw [← hW]; simp [hcell, go_sem]
  have z4 : w2.cell? ⟨w.heap.size + 1 + 1, 4, none⟩ = some (.int .i64 0) := by rw [← hW]; simp [hcell, go_sem]
  have z5 : w2.cell? ⟨w.heap.size + 1 + 1, 5, none⟩ = some (.int .i64 0) := by rw [← hW]; simp [hcell, go_sem]
  have z6 : w2.cell? ⟨w.heap.size + 1 + 1, 6, none⟩ = some (.int .i64 0) := by rw [← hW]; simp [hcell, go_sem]
  have z7 : w2.cell? ⟨w.heap.size + 1 + 1, 7, none⟩ = some (.int .i64 0) := by rw [← hW]; simp [hcell, go_sem]
  have z8 : w2.cell? ⟨w.heap.size + 1 + 1, 8, none⟩ = some (.bool false) := by rw [← hW]; simp [hcell, go_sem]
  have z9 : w2.cell? ⟨w.heap.size + 1 + 1, 9, none⟩ = some (.int .i64 0) := by rw [← hW]; simp [hcell, go_sem]
  have f0 : w2.frozen? ⟨w.heap.size + 1 + 1, 0, none⟩ = false := by rw [← hW]; simp [hfr, go_sem]
  have f1 : w2.frozen? ⟨w.heap.size + 1 + 1, 1, none⟩ = false := by rw [← hW]; simp [hfr, go_sem]
  have f2 : w2.frozen? ⟨w.heap.size + 1 + 1, 2, none⟩ = false := by rw [← hW]; simp [hfr, go_sem]
  have f3 : w2.frozen? ⟨w.heap.size + 1 + 1, 3, none⟩ = false := by rw [← hW]; simp [hfr, go_sem]
  have f4 : w2.frozen? ⟨w.heap.size + 1 + 1, 4, none⟩ = false := by rw [← hW]; simp [hfr, go_sem]
  have f5 : w2.frozen? ⟨w.heap.size + 1 + 1, 5, none⟩ = false := by rw [← hW]; simp [hfr, go_sem]
  have f6 : w2.frozen? ⟨w.heap.size + 1 + 1, 6, none⟩ = false := by rw [← hW]; simp [hfr, go_sem]
  have f7 : w2.frozen? ⟨w.heap.size + 1 + 1, 7, none⟩ = false := by rw [← hW]; simp [hfr, go_sem]
  have f8 : w2.frozen? ⟨w.heap.size + 1 + 1, 8, none⟩ = false := by rw [← hW]; simp [hfr, go_sem]
  have f9 : w2.frozen? ⟨w.heap.size + 1 + 1, 9, none⟩ = false := by rw [← hW]; simp [hfr, go_sem]
  have hs' : w2.heap.size = w1.heap.size := by rw [← hW]; simp
  have y0 : w.heap.size < w2.heap.size := by omega
  have y1 : w.heap.size + 1 < w2.heap.size := by omega
  have y2 : w.heap.size + 1 + 1 < w2.heap.size := by omega
  have hbel2 : Below w.heap.size w w2 := by rw [← hW]; go_grown
  clear hW hcell hfr hbel hs hs' hz0 hz1 hz2 hb
  go_wp2
  refine bodyPost_ret (v := .tuple #[.agg #[.int .i64 0, .int .i64 0, .int .i64 0, .int .i64 0, .int .i64 0, .int .i64 0, .int .i64 0, .int .i64 0, .bool false, .int .i64 0], .int .i64 10]) (by simp [results, Try.results18, go_sem, *]) rfl ?_
  refine ⟨rfl, ?_⟩
  go_grown

set_option maxHeartbeats 1000000 in
theorem ready_state_0_true (A : Option Addr) (n cap : Nat) (inc delay : Int) (ps : List (Int × Int)) (l0 l1 m0 m1 p0 p1 since fallen : Int) (now : Int) (w : World) (hn : n ≤ 9223372036854775807) (hp : PerAt w w.heap.size A n ps) (hr : RuleOk n inc delay ps) (hk : ClkOk n l0 l1 m0 m1 p0 p1 0 since fallen) (e0 : witB now since 100000000 = true) (hf : fallen < 0) (hu : usedZ false delay since now ≤ l0) :
    Calls Try.prog 18 #[.agg #[.slice A n cap, .int .i64 inc, .int .i64 delay], .agg #[.int .i64 l0, .int .i64 l1, .int .i64 m0, .int .i64 m1, .int .i64 p0, .int .i64 p1, .int .i64 0, .int .i64 since, .bool false, .int .i64 fallen], .int .i64 now, .bool true] w (fun e w' => e = .returned (.tuple #[.agg #[.int .i64 0, .int .i64 0, .int .i64 0, .int .i64 0, .int .i64 0, .int .i64 0, .int .i64 0, .int .i64 0, .bool false, .int .i64 0], .int .i64 10]) ∧ Below w.heap.size w w') := by
  have H := Lib.hid hr
  have HC := Lib.hid hk
  clear hr hk
  have hP := Lib.hid (((hp.alloc (.cells #[.slice A n cap, .int .i64 inc, .int .i64 delay] 24)).alloc (.cells #[.int .i64 l0, .int .i64 l1, .int .i64 m0, .int .i64 m1, .int .i64 p0, .int .i64 p1, .int .i64 0, .int .i64 since, .bool false, .int .i64 fallen] 27)).alloc (.cells #[.int .i64 0, .int .i64 0, .int .i64 0, .int .i64 0, .int .i64 0, .int .i64 0, .int .i64 0, .int .i64 0, .bool false, .int .i64 0] 27))
  clear hp
  go_enter Try.func18, Try.ntmps18
  go_wp2_with fail
  refine (Look_stay_0 A n cap inc delay ps l0 l1 m0 m1 p0 p1 since fallen false now _ hn hP.out H.out HC.out e0 hf hu).mono ?_
  rintro e w1 ⟨rfl, hb⟩
  obtain ⟨hcell, hfr⟩ := bcell hb
  have hs := hb.size
  (try simp only [World.size_alloc] at hs)
  have hz0 : w.heap.size < w1.heap.size := by omega
  have hz1 : w.heap.size + 1 < w1.heap.size := by omega
  have hz2 : w.heap.size + 1 + 1 < w1.heap.size := by omega
  have hbel := ((((Below.refl w.heap.size w).alloc (by go_size) _).alloc (by go_size) _).alloc (by go_size) _).trans (hb.mono (by go_size))
  go_upto_region 2 with (fail)
  generalize hW : ((((((((((w1.setCell ⟨w.heap.size + 1, 0, none⟩ (.int .i64 l0)).setCell ⟨w.heap.size + 1, 1, none⟩ (.int .i64 l1)).setCell ⟨w.heap.size + 1, 2, none⟩ (.int .i64 m0)).setCell ⟨w.heap.size + 1, 3, none⟩ (.int .i64 m1)).setCell ⟨w.heap.size + 1, 4, none⟩ (.int .i64 p0)).setCell ⟨w.heap.size + 1, 5, none⟩ (.int .i64 p1)).setCell ⟨w.heap.size + 1, 6, none⟩ (.int .i64 0)).setCell ⟨w.heap.size + 1, 7, none⟩ (.int .i64 since)).setCell ⟨w.heap.size + 1, 8, none⟩ (.bool false)).setCell ⟨w.heap.size + 1, 9, none⟩ (.int .i64 fallen)) = w2
  have r0 : w2.cell? ⟨w.heap.size, 0, none⟩ = some (.slice A n cap) := by rw [← hW]; simp [hcell, go_sem]
  have r1 : w2.cell? ⟨w.heap.size, 1, none⟩ = some (.int .i64 inc) := by rw [← hW]; simp [hcell, go_sem]
  have r2 : w2.cell? ⟨w.heap.size, 2, none⟩ = some (.int .i64 delay) := by rw [← hW]; simp [hcell, go_sem]
  have c0 : w2.cell? ⟨w.heap.size + 1, 0, none⟩ = some (.int .i64 l0) := by rw [← hW]; simp [hcell, go_sem]
  have c1 : w2.cell? ⟨w.heap.size + 1, 1, none⟩ = some (.int .i64 l1) := by rw [← hW]; simp [hcell, go_sem]
  have c2 : w2.cell? ⟨w.heap.size + 1, 2, none⟩ = some (.int .i64 m0) := by rw [← hW]; simp [hcell, go_sem]
  have c3 : w2.cell? ⟨w.heap.size + 1, 3, none⟩ = some (.int .i64 m1) := by rw [← hW]; simp [hcell, go_sem]
  have c4 : w2.cell? ⟨w.heap.size + 1, 4, none⟩ = some (.int .i64 p0) := by rw [← hW]; simp [hcell, go_sem]
  have c5 : w2.cell? ⟨w.heap.size + 1, 5, none⟩ = some (.int .i64 p1) := by rw [← hW]; simp [hcell, go_sem]
  have c6 : w2.cell? ⟨w.heap.size + 1, 6, none⟩ = some (.int .i64 0) := by rw [← hW]; simp [hcell, go_sem]
  have c7 : w2.cell? ⟨w.heap.size + 1, 7, none⟩ = some (.int .i64 since) := by rw [← hW]; simp [hcell, go_sem]
  have c8 : w2.cell? ⟨w.heap.size + 1, 8, none⟩ = some (.bool false) := by rw [← hW]; simp [hcell, go_sem]
  have c9 : w2.cell? ⟨w.heap.size + 1, 9, none⟩ = some (.int .i64 fallen) := by rw [← hW]; simp [hcell, go_sem]
  have g0 : w2.frozen? ⟨w.heap.size + 1, 0, none⟩ = false := by rw [← hW]; simp [hfr, go_sem]
  have g1 : w2.frozen? ⟨w.heap.size + 1, 1, none⟩ = false := by rw [← hW]; simp [hfr, go_sem]
  have g2 : w2.frozen? ⟨w.heap.size + 1, 2, none⟩ = false := by rw [← hW]; simp [hfr, go_sem]
  have g3 : w2.frozen? ⟨w.heap.size + 1, 3, none⟩ = false := by rw [← hW]; simp [hfr, go_sem]
  have g4 : w2.frozen? ⟨w.heap.size + 1, 4, none⟩ = false := by rw [← hW]; simp [hfr, go_sem]
  have g5 : w2.frozen? ⟨w.heap.size + 1, 5, none⟩ = false := by rw [← hW]; simp [hfr, go_sem]
  have g6 : w2.frozen? ⟨w.heap.size + 1, 6, none⟩ = false := by rw [← hW]; simp [hfr, go_sem]
  have g7 : w2.frozen? ⟨w.heap.size + 1, 7, none⟩ = false := by rw [← hW]; simp [hfr, go_sem]
  have g8 : w2.frozen? ⟨w.heap.size + 1, 8, none⟩ = false := by rw [← hW]; simp [hfr, go_sem]
  have g9 : w2.frozen? ⟨w.heap.size + 1, 9, none⟩ = false := by rw [← hW]; simp [hfr, go_sem]
  have z0 : w2.cell? ⟨w.heap.size + 1 + 1, 0, none⟩ = some (.int .i64 0) := by rw [← hW]; simp [hcell, go_sem]
  have z1 : w2.cell? ⟨w.heap.size + 1 + 1, 1, none⟩ = some (.int .i64 0) := by rw [← hW]; simp [hcell, go_sem]
  have z2 : w2.cell? ⟨w.heap.size + 1 + 1, 2, none⟩ = some (.int .i64 0) := by rw [← hW]; simp [hcell, go_sem]
  have z3 : w2.cell? ⟨w.heap.size + 1 + 1, 3, none⟩ = some (.int .i64 0) := by rw [← hW]; simp [hcell, go_sem]
  have z4 : w2.cell? ⟨w.heap.size + 1 + 1, 4, none⟩ = some (.int .i64 0) := by rw [← hW]; simp [hcell, go_sem]
  have z5 : w2.cell? ⟨w.heap.size + 1 + 1, 5, none⟩ = some (.int .i64 0) := by rw [← hW]; simp [hcell, go_sem]
  have z6 : w2.cell? ⟨w.heap.size + 1 + 1, 6, none⟩ = some (.int .i64 0) := by rw [← hW]; simp [hcell, go_sem]
  have z7 : w2.cell? ⟨w.heap.size + 1 + 1, 7, none⟩ = some (.int .i64 0) := by rw [← hW]; simp [hcell, go_sem]
  have z8 : w2.cell? ⟨w.heap.size + 1 + 1, 8, none⟩ = some (.bool false) := by rw [← hW]; simp [hcell, go_sem]
  have z9 : w2.cell? ⟨w.heap.size + 1 + 1, 9, none⟩ = some (.int .i64 0) := by rw [← hW]; simp [hcell, go_sem]
  have f0 : w2.frozen? ⟨w.heap.size + 1 + 1, 0, none⟩ = false := by rw [← hW]; simp [hfr, go_sem]
  have f1 : w2.frozen? ⟨w.heap.size + 1 + 1, 1, none⟩ = false := by rw [← hW]; simp [hfr, go_sem]
  have f2 : w2.frozen? ⟨w.heap.size + 1 + 1, 2, none⟩ = false := by rw [← hW]; simp [hfr, go_sem]
  have f3 : w2.frozen? ⟨w.heap.size + 1 + 1, 3, none⟩ = false := by rw [← hW]; simp [hfr, go_sem]
  have f4 : w2.frozen? ⟨w.heap.size + 1 + 1, 4, none⟩ = false := by rw [← hW]; simp [hfr, go_sem]
  have f5 : w2.frozen? ⟨w.heap.size + 1 + 1, 5, none⟩ = false := by rw [← hW]; simp [hfr, go_sem]
  have f6 : w2.frozen? ⟨w.heap.size + 1 + 1, 6, none⟩ = false := by rw [← hW]; simp [hfr, go_sem]
  have f7 : w2.frozen? ⟨w.heap.size + 1 + 1, 7, none⟩ = false := by rw [← hW]; simp [hfr, go_sem]
  have f8 : w2.frozen? ⟨w.heap.size + 1 + 1, 8, none⟩ = false := by rw [← hW]; simp [hfr, go_sem]
  have f9 : w2.frozen? ⟨w.heap.size + 1 + 1, 9, none⟩ = false := by rw [← hW]; simp [hfr, go_sem]
  have hs' : w2.heap.size = w1.heap.size := by rw [← hW]; simp
  have y0 : w.heap.size < w2.heap.size := by omega
  have y1 : w.heap.size + 1 < w2.heap.size := by omega
  have y2 : w.heap.size + 1 + 1 < w2.heap.size := by omega
  have hbel2 : Below w.heap.size w w2 := by rw [← hW]; go_grown
  clear hW hcell hfr hbel hs hs' hz0 hz1 hz2 hb
  go_wp2
  refine bodyPost_ret (v := .tuple #[.agg #[.int .i64 0, .int .i64 0, .int .i64 0, .int .i64 0, .int .i64 0, .int .i64 0, .int .i64 0, .int .i64 0, .bool false, .int .i64 0], .int .i64 10]) (by simp [results, Try.results18, go_sem, *]) rfl ?_
  refine ⟨rfl, ?_⟩
  go_grown

set_option maxHeartbeats 1000000 in
theorem ready_fall_1 (A : Option Addr) (n cap : Nat) (inc delay : Int) (ps : List (Int × Int)) (l0 l1 m0 m1 p0 p1 since fallen : Int) (st : Bool) (now : Int) (want : Bool) (w : World) (hn : n ≤ 9223372036854775807) (hp : PerAt w w.heap.size A n ps) (hr : RuleOk n inc delay ps) (hk : ClkOk n l0 l1 m0 m1 p0 p1 1 since fallen) (e0 : witB now since 100000000 = true) (hf : fallen < 0) (hu : l1 < usedZ st delay since now) :
    Calls Try.prog 18 #[.agg #[.slice A n cap, .int .i64 inc, .int .i64 delay], .agg #[.int .i64 l0, .int .i64 l1, .int .i64 m0, .int .i64 m1, .int .i64 p0, .int .i64 p1, .int .i64 1, .int .i64 since, .bool st, .int .i64 fallen], .int .i64 now, .bool want] w (fun e w' => e = .returned (.tuple #[.agg #[.int .i64 0, .int .i64 0, .int .i64 0, .int .i64 0, .int .i64 0, .int .i64 0, .int .i64 0, .int .i64 0, .bool false, .int .i64 0], .int .i64 14]) ∧ Below w.heap.size w w') := by
  have H := Lib.hid hr
  have HC := Lib.hid hk
  clear hr hk
  have hP := Lib.hid (((hp.alloc (.cells #[.slice A n cap, .int .i64 inc, .int .i64 delay] 24)).alloc (.cells #[.int .i64 l0, .int .i64 l1, .int .i64 m0, .int .i64 m1, .int .i64 p0, .int .i64 p1, .int .i64 1, .int .i64 since, .bool st, .int .i64 fallen] 27)).alloc (.cells #[.int .i64 0, .int .i64 0, .int .i64 0, .int .i64 0, .int .i64 0, .int .i64 0, .int .i64 0, .int .i64 0, .bool false, .int .i64 0] 27))
  clear hp
  go_enter Try.func18, Try.ntmps18
  go_wp2_with fail
  refine (Look_fall_1 A n cap inc delay ps l0 l1 m0 m1 p0 p1 since fallen st now _ hn hP.out H.out HC.out e0 hf hu).mono ?_
  rintro e w1 ⟨rfl, hb⟩
  obtain ⟨hcell, hfr⟩ := bcell hb
  have hs := hb.size
  (try simp only [World.size_alloc] at hs)
  have hz0 : w.heap.size < w1.heap.size := by omega
  have hz1 : w.heap.size + 1 < w1.heap.size := by omega
  have hz2 : w.heap.size + 1 + 1 < w1.heap.size := by omega
  have hbel := ((((Below.refl w.heap.size w).alloc (by go_size) _).alloc (by go_size) _).alloc (by go_size) _).trans (hb.mono (by go_size))
  go_upto_region 2 with (fail)
  generalize hW : ((((((((((w1.setCell ⟨w.heap.size + 1, 0, none⟩ (.int .i64 l0)).setCell ⟨w.heap.size + 1, 1, none⟩ (.int .i64 0)).setCell ⟨w.heap.size + 1, 2, none⟩ (.int .i64 m0)).setCell ⟨w.heap.size + 1, 3, none⟩ (.int .i64 m1)).setCell ⟨w.heap.size + 1, 4, none⟩ (.int .i64 p0)).setCell ⟨w.heap.size + 1, 5, none⟩ (.int .i64 p1)).setCell ⟨w.heap.size + 1, 6, none⟩ (.int .i64 1)).setCell ⟨w.heap.size + 1, 7, none⟩ (.int .i64 since)).setCell ⟨w.heap.size + 1, 8, none⟩ (.bool st)).setCell ⟨w.heap.size + 1, 9, none⟩ (.int .i64 1)) = w2
  have r0 : w2.cell? ⟨w.heap.size, 0, none⟩ = some (.slice A n cap) := by rw [← hW]; simp [hcell, go_sem]
  have r1 : w2.cell? ⟨w.heap.size, 1, none⟩ = some (.int .i64 inc) := by rw [← hW]; simp [hcell, go_sem]
  have r2 : w2.cell? ⟨w.heap.size, 2, none⟩ = some (.int .i64 delay) := by rw [← hW]; simp [hcell, go_sem]
  have c0 : w2.cell? ⟨w.heap.size + 1, 0, none⟩ = some (.int .i64 l0) := by rw [← hW]; simp [hcell, go_sem]
  have c1 : w2.cell? ⟨w.heap.size + 1, 1, none⟩ = some (.int .i64 0) := by rw [← hW]; simp [hcell, go_sem]
  have c2 : w2.cell? ⟨w.heap.size + 1, 2, none⟩ = some (.int .i64 m0) := by rw [← hW]; simp [hcell, go_sem]
  have c3 : w2.cell? ⟨w.heap.size + 1, 3, none⟩ = some (.int .i64 m1) := by rw [← hW]; simp [hcell, go_sem]
  have c4 : w2.cell? ⟨w.heap.size + 1, 4, none⟩ = some (.int .i64 p0) := by rw [← hW]; simp [hcell, go_sem]
  have c5 : w2.cell? ⟨w.heap.size + 1, 5, none⟩ = some (.int .i64 p1) := by rw [← hW]; simp [hcell, go_sem]
  have c6 : w2.cell? ⟨w.heap.size + 1, 6, none⟩ = some (.int .i64 1) := by rw [← hW]; simp [hcell, go_sem]
  have c7 : w2.cell? ⟨w.heap.size + 1, 7, none⟩ = some (.int .i64 since) := by rw [← hW]; simp [hcell, go_sem]
  have c8 : w2.cell? ⟨w.heap.size + 1, 8, none⟩ = some (.bool st) := by rw [← hW]; simp [hcell, go_sem]
  have c9 : w2.cell? ⟨w.heap.size + 1, 9, none⟩ = some (.int .i64 1) := by rw [← hW]; simp [hcell, go_sem]
  have g0 : w2.frozen? ⟨w.heap.size + 1, 0, none⟩ = false := by rw [← hW]; simp [hfr, go_sem]
  have g1 : w2.frozen? ⟨w.heap.size + 1, 1, none⟩ = false := by rw [← hW]; simp [hfr, go_sem]
  have g2 : w2.frozen? ⟨w.heap.size + 1, 2, none⟩ = false := by rw [← hW]; simp [hfr, go_sem]
  have g3 : w2.frozen? ⟨w.heap.size + 1, 3, none⟩ = false := by rw [← hW]; simp [hfr, go_sem]
  have g4 : w2.frozen? ⟨w.heap.size + 1, 4, none⟩ = false := by rw [← hW]; simp [hfr, go_sem]
  have g5 : w2.frozen? ⟨w.heap.size + 1, 5, none⟩ = false := by rw [← hW]; simp [hfr, go_sem]
  have g6 : w2.frozen? ⟨w.heap.size + 1, 6, none⟩ = false := by rw [← hW]; simp [hfr, go_sem]
  have g7 : w2.frozen? ⟨w.heap.size + 1, 7, none⟩ = false := by rw [← hW]; simp [hfr, go_sem]
  have g8 : w2.frozen? ⟨w.heap.size + 1, 8, none⟩ = false := by rw [← hW]; simp [hfr, go_sem]
  have g9 : w2.frozen? ⟨w.heap.size + 1, 9, none⟩ = false := by rw [← hW]; simp [hfr, go_sem]
  have z0 : w2.cell? ⟨w.heap.size + 1 + 1, 0, none⟩ = some (.int .i64 0) := by rw [← hW]; simp [hcell, go_sem]
  have z1 : w2.cell? ⟨w.heap.size + 1 + 1, 1, none⟩ = some (.int .i64 0) := by rw [← hW]; simp [hcell, go_sem]
  have z2 : w2.cell? ⟨w.heap.size + 1 + 1, 2, none⟩ = some (.int .i64 0) := by rw [← hW]; simp [hcell, go_sem]
  have z3 : w2.cell? ⟨w.heap.size + 1 + 1, 3, none⟩ = some (.int .i64 0) := by rw [← hW]; simp [hcell, go_sem]
  have z4 : w2.cell? ⟨w.heap.size + 1 + 1, 4, none⟩ = some (.int .i64 0) := by rw [← hW]; simp [hcell, go_sem]
  have z5 : w2.cell? ⟨w.heap.size + 1 + 1, 5, none⟩ = some (.int .i64 0) := by rw [← hW]; simp [hcell, go_sem]
  have z6 : w2.cell? ⟨w.heap.size + 1 + 1, 6, none⟩ = some (.int .i64 0) := by rw [← hW]; simp [hcell, go_sem]
  have z7 : w2.cell? ⟨w.heap.size + 1 + 1, 7, none⟩ = some (.int .i64 0) := by rw [← hW]; simp [hcell, go_sem]
  have z8 : w2.cell? ⟨w.heap.size + 1 + 1, 8, none⟩ = some (.bool false) := by rw [← hW]; simp [hcell, go_sem]
  have z9 : w2.cell? ⟨w.heap.size + 1 + 1, 9, none⟩ = some (.int .i64 0) := by rw [← hW]; simp [hcell, go_sem]
  have f0 : w2.frozen? ⟨w.heap.size + 1 + 1, 0, none⟩ = false := by rw [← hW]; simp [hfr, go_sem]
  have f1 : w2.frozen? ⟨w.heap.size + 1 + 1, 1, none⟩ = false := by rw [← hW]; simp [hfr, go_sem]
  have f2 : w2.frozen? ⟨w.heap.size + 1 + 1, 2, none⟩ = false := by rw [← hW]; simp [hfr, go_sem]
  have f3 : w2.frozen? ⟨w.heap.size + 1 + 1, 3, none⟩ = false := by rw [← hW]; simp [hfr, go_sem]
  have f4 : w2.frozen? ⟨w.heap.size + 1 + 1, 4, none⟩ = false := by rw [← hW]; simp [hfr, go_sem]
  have f5 : w2.frozen? ⟨w.heap.size + 1 + 1, 5, none⟩ = false := by rw [← hW]; simp [hfr, go_sem]
  have f6 : w2.frozen? ⟨w.heap.size + 1 + 1, 6, none⟩ = false := by rw [← hW]; simp [hfr, go_sem]
  have f7 : w2.frozen? ⟨w.heap.size + 1 + 1, 7, none⟩ = false := by rw [← hW]; simp [hfr, go_sem]
  have f8 : w2.frozen? ⟨w.heap.size + 1 + 1, 8, none⟩ = false := by rw [← hW]; simp [hfr, go_sem]
  have f9 : w2.frozen? ⟨w.heap.size + 1 + 1, 9, none⟩ = false := by rw [← hW]; simp [hfr, go_sem]
  have hs' : w2.heap.size = w1.heap.size := by rw [← hW]; simp
  have y0 : w.heap.size < w2.heap.size := by omega
  have y1 : w.heap.size + 1 < w2.heap.size := by omega
  have y2 : w.heap.size + 1 + 1 < w2.heap.size := by omega
  have hbel2 : Below w.heap.size w w2 := by rw [← hW]; go_grown
  clear hW hcell hfr hbel hs hs' hz0 hz1 hz2 hb
  go_wp2
  refine bodyPost_ret (v := .tuple #[.agg #[.int .i64 0, .int .i64 0, .int .i64 0, .int .i64 0, .int .i64 0, .int .i64 0, .int .i64 0, .int .i64 0, .bool false, .int .i64 0], .int .i64 14]) (by simp [results, Try.results18, go_sem, *]) rfl ?_
  refine ⟨rfl, ?_⟩
  go_grown

set_option maxHeartbeats 1000000 in
theorem ready_ok_1_true (A : Option Addr) (n cap : Nat) (inc delay : Int) (ps : List (Int × Int)) (l0 l1 m0 m1 p0 p1 since fallen : Int) (now : Int) (w : World) (hn : n ≤ 9223372036854775807) (hp : PerAt w w.heap.size A n ps) (hr : RuleOk n inc delay ps) (hk : ClkOk n l0 l1 m0 m1 p0 p1 1 since fallen) (e0 : witB now since 100000000 = true) (hf : fallen < 0) (hu : usedZ true delay since now ≤ l1) :
    Calls Try.prog 18 #[.agg #[.slice A n cap, .int .i64 inc, .int .i64 delay], .agg #[.int .i64 l0, .int .i64 l1, .int .i64 m0, .int .i64 m1, .int .i64 p0, .int .i64 p1, .int .i64 1, .int .i64 since, .bool true, .int .i64 fallen], .int .i64 now, .bool true] w (fun e w' => e = .returned (.tuple #[.agg #[.int .i64 l0, .int .i64 l1, .int .i64 m0, .int .i64 m1, .int .i64 p0, .int .i64 p1, .int .i64 1, .int .i64 since, .bool true, .int .i64 fallen], .int .i64 0]) ∧ Below w.heap.size w w') := by
  have H := Lib.hid hr
  have HC := Lib.hid hk
  clear hr hk
  have hP := Lib.hid (((hp.alloc (.cells #[.slice A n cap, .int .i64 inc, .int .i64 delay] 24)).alloc (.cells #[.int .i64 l0, .int .i64 l1, .int .i64 m0, .int .i64 m1, .int .i64 p0, .int .i64 p1, .int .i64 1, .int .i64 since, .bool true, .int .i64 fallen] 27)).alloc (.cells #[.int .i64 0, .int .i64 0, .int .i64 0, .int .i64 0, .int .i64 0, .int .i64 0, .int .i64 0, .int .i64 0, .bool false, .int .i64 0] 27))
  clear hp
  go_enter Try.func18, Try.ntmps18
  go_wp2_with fail
  refine (Look_stay_1 A n cap inc delay ps l0 l1 m0 m1 p0 p1 since fallen true now _ hn hP.out H.out HC.out e0 hf hu).mono ?_
  rintro e w1 ⟨rfl, hb⟩
  obtain ⟨hcell, hfr⟩ := bcell hb
  have hs := hb.size
  (try simp only [World.size_alloc] at hs)
  have hz0 : w.heap.size < w1.heap.size := by omega
  have hz1 : w.heap.size + 1 < w1.heap.size := by omega
  have hz2 : w.heap.size + 1 + 1 < w1.heap.size := by omega
  have hbel := ((((Below.refl w.heap.size w).alloc (by go_size) _).alloc (by go_size) _).alloc (by go_size) _).trans (hb.mono (by go_size))
  go_upto_region 2 with (fail)
  generalize hW : ((((((((((w1.setCell ⟨w.heap.size + 1, 0, none⟩ (.int .i64 l0)).setCell ⟨w.heap.size + 1, 1, none⟩ (.int .i64 l1)).setCell ⟨w.heap.size + 1, 2, none⟩ (.int .i64 m0)).setCell ⟨w.heap.size + 1, 3, none⟩ (.int .i64 m1)).setCell ⟨w.heap.size + 1, 4, none⟩ (.int .i64 p0)).setCell ⟨w.heap.size + 1, 5, none⟩ (.int .i64 p1)).setCell ⟨w.heap.size + 1, 6, none⟩ (.int .i64 1)).setCell ⟨w.heap.size + 1, 7, none⟩ (.int .i64 since)).setCell ⟨w.heap.size + 1, 8, none⟩ (.bool true)).setCell ⟨w.heap.size + 1, 9, none⟩ (.int .i64 fallen)) = w2
  have r0 : w2.cell? ⟨w.heap.size, 0, none⟩ = some (.slice A n cap) := by rw [← hW]; simp [hcell, go_sem]
  have r1 : w2.cell? ⟨w.heap.size, 1, none⟩ = some (.int .i64 inc) := by rw [← hW]; simp [hcell, go_sem]
  have r2 : w2.cell? ⟨w.heap.size, 2, none⟩ = some (.int .i64 delay) := by rw [← hW]; simp [hcell, go_sem]
  have c0 : w2.cell? ⟨w.heap.size + 1, 0, none⟩ = some (.int .i64 l0) := by rw [← hW]; simp [hcell, go_sem]
  have c1 : w2.cell? ⟨w.heap.size + 1, 1, none⟩ = some (.int .i64 l1) := by rw [← hW]; simp [hcell, go_sem]
  have c2 : w2.cell? ⟨w.heap.size + 1, 2, none⟩ = some (.int .i64 m0) := by rw [← hW]; simp [hcell, go_sem]
  have c3 : w2.cell? ⟨w.heap.size + 1, 3, none⟩ = some (.int .i64 m1) := by rw [← hW]; simp [hcell, go_sem]
  have c4 : w2.cell? ⟨w.heap.size + 1, 4, none⟩ = some (.int .i64 p0) := by rw [← hW]; simp [hcell, go_sem]
  have c5 : w2.cell? ⟨w.heap.size + 1, 5, none⟩ = some (.int .i64 p1) := by rw [← hW]; simp [hcell, go_sem]
  have c6 : w2.cell? ⟨w.heap.size + 1, 6, none⟩ = some (.int .i64 1) := by rw [← hW]; simp [hcell, go_sem]
  have c7 : w2.cell? ⟨w.heap.size + 1, 7, none⟩ = some (.int .i64 since) := by rw [← hW]; simp [hcell, go_sem]
  have c8 : w2.cell? ⟨w.heap.size + 1, 8, none⟩ = some (.bool true) := by rw [← hW]; simp [hcell, go_sem]
  have c9 : w2.cell? ⟨w.heap.size + 1, 9, none⟩ = some (.int .i64 fallen) := by rw [← hW]; simp [hcell, go_sem]
  have g0 : w2.frozen? ⟨w.heap.size + 1, 0, none⟩ = false := by rw [← hW]; simp [hfr, go_sem]
  have g1 : w2.frozen? ⟨w.heap.size + 1, 1, none⟩ = false := by rw [← hW]; simp [hfr, go_sem]
  have g2 : w2.frozen? ⟨w.heap.size + 1, 2, none⟩ = false := by rw [← hW]; simp [hfr, go_sem]
  have g3 : w2.frozen? ⟨w.heap.size + 1, 3, none⟩ = false := by rw [← hW]; simp [hfr, go_sem]
  have g4 : w2.frozen? ⟨w.heap.size + 1, 4, none⟩ = false := by rw [← hW]; simp [hfr, go_sem]
  have g5 : w2.frozen? ⟨w.heap.size + 1, 5, none⟩ = false := by rw [← hW]; simp [hfr, go_sem]
  have g6 : w2.frozen? ⟨w.heap.size + 1, 6, none⟩ = false := by rw [← hW]; simp [hfr, go_sem]
  have g7 : w2.frozen? ⟨w.heap.size + 1, 7, none⟩ = false := by rw [← hW]; simp [hfr, go_sem]
  have g8 : w2.frozen? ⟨w.heap.size + 1, 8, none⟩ = false := by rw [← hW]; simp [hfr, go_sem]
  have g9 : w2.frozen? ⟨w.heap.size + 1, 9, none⟩ = false := by rw [← hW]; simp [hfr, go_sem]
  have z0 : w2.cell? ⟨w.heap.size + 1 + 1, 0, none⟩ = some (.int .i64 0) := by rw [← hW]; simp [hcell, go_sem]
  have z1 : w2.cell? ⟨w.heap.size + 1 + 1, 1, none⟩ = some (.int .i64 0) := by rw [← hW]; simp [hcell, go_sem]
  have z2 : w2.cell? ⟨w.heap.size + 1 + 1, 2, none⟩ = some (.int .i64 0) := by rw [← hW]; simp [hcell, go_sem]
  have z3 : w2.cell? ⟨w.heap.size + 1 + 1, 3, none⟩ = some (.int .i64 0) := by rw [← hW]; simp [hcell, go_sem]
  have z4 : w2.cell? ⟨w.heap.size + 1 + 1, 4, none⟩ = some (.int .i64 0) := by rw [← hW]; simp [hcell, go_sem]
  have z5 : w2.cell? ⟨w.heap.size + 1 + 1, 5, none⟩ = some (.int .i64 0) := by rw [← hW]; simp [hcell, go_sem]
  have z6 : w2.cell? ⟨w.heap.size + 1 + 1, 6, none⟩ = some (.int .i64 0) := by rw [← hW]; simp [hcell, go_sem]
  have z7 : w2.cell? ⟨w.heap.size + 1 + 1, 7, none⟩ = some (.int .i64 0) := by rw [← hW]; simp [hcell, go_sem]
  have z8 : w2.cell? ⟨w.heap.size + 1 + 1, 8, none⟩ = some (.bool false) := by rw [← hW]; simp [hcell, go_sem]
  have z9 : w2.cell? ⟨w.heap.size + 1 + 1, 9, none⟩ = some (.int .i64 0) := by rw [← hW]; simp [hcell, go_sem]
  have f0 : w2.frozen? ⟨w.heap.size + 1 + 1, 0, none⟩ = false := by rw [← hW]; simp [hfr, go_sem]
  have f1 : w2.frozen? ⟨w.heap.size + 1 + 1, 1, none⟩ = false := by rw [← hW]; simp [hfr, go_sem]
  have f2 : w2.frozen? ⟨w.heap.size + 1 + 1, 2, none⟩ = false := by rw [← hW]; simp [hfr, go_sem]
  have f3 : w2.frozen? ⟨w.heap.size + 1 + 1, 3, none⟩ = false := by rw [← hW]; simp [hfr, go_sem]
  have f4 : w2.frozen? ⟨w.heap.size + 1 + 1, 4, none⟩ = false := by rw [← hW]; simp [hfr, go_sem]
  have f5 : w2.frozen? ⟨w.heap.size + 1 + 1, 5, none⟩ = false := by rw [← hW]; simp [hfr, go_sem]
  have f6 : w2.frozen? ⟨w.heap.size + 1 + 1, 6, none⟩ = false := by rw [← hW]; simp [hfr, go_sem]
  have f7 : w2.frozen? ⟨w.heap.size + 1 + 1, 7, none⟩ = false := by rw [← hW]; simp [hfr, go_sem]
  have f8 : w2.frozen? ⟨w.heap.size + 1 + 1, 8, none⟩ = false := by rw [← hW]; simp [hfr, go_sem]
  have f9 : w2.frozen? ⟨w.heap.size + 1 + 1, 9, none⟩ = false := by rw [← hW]; simp [hfr, go_sem]
  have hs' : w2.heap.size = w1.heap.size := by rw [← hW]; simp
  have y0 : w.heap.size < w2.heap.size := by omega
  have y1 : w.heap.size + 1 < w2.heap.size := by omega
  have y2 : w.heap.size + 1 + 1 < w2.heap.size := by omega
  have hbel2 : Below w.heap.size w w2 := by rw [← hW]; go_grown
  clear hW hcell hfr hbel hs hs' hz0 hz1 hz2 hb
  go_wp2
  refine bodyPost_ret (v := .tuple #[.agg #[.int .i64 l0, .int .i64 l1, .int .i64 m0, .int .i64 m1, .int .i64 p0, .int .i64 p1, .int .i64 1, .int .i64 since, .bool true, .int .i64 fallen], .int .i64 0]) (by simp [results, Try.results18, go_sem, *]) rfl ?_
  refine ⟨rfl, ?_⟩
  go_grown

set_option maxHeartbeats 1000000 in
theorem ready_ok_1_false (A : Option Addr) (n cap : Nat) (inc delay : Int) (ps : List (Int × Int)) (l0 l1 m0 m1 p0 p1 since fallen : Int) (now : Int) (w : World) (hn : n ≤ 9223372036854775807) (hp : PerAt w w.heap.size A n ps) (hr : RuleOk n inc delay ps) (hk : ClkOk n l0 l1 m0 m1 p0 p1 1 since fallen) (e0 : witB now since 100000000 = true) (hf : fallen < 0) (hu : usedZ false delay since now ≤ l1) :
    Calls Try.prog 18 #[.agg #[.slice A n cap, .int .i64 inc, .int .i64 delay], .agg #[.int .i64 l0, .int .i64 l1, .int .i64 m0, .int .i64 m1, .int .i64 p0, .int .i64 p1, .int .i64 1, .int .i64 since, .bool false, .int .i64 fallen], .int .i64 now, .bool false] w (fun e w' => e = .returned (.tuple #[.agg #[.int .i64 l0, .int .i64 l1, .int .i64 m0, .int .i64 m1, .int .i64 p0, .int .i64 p1, .int .i64 1, .int .i64 since, .bool false, .int .i64 fallen], .int .i64 0]) ∧ Below w.heap.size w w') := by
  have H := Lib.hid hr
  have HC := Lib.hid hk
  clear hr hk
  have hP := Lib.hid (((hp.alloc (.cells #[.slice A n cap, .int .i64 inc, .int .i64 delay] 24)).alloc (.cells #[.int .i64 l0, .int .i64 l1, .int .i64 m0, .int .i64 m1, .int .i64 p0, .int .i64 p1, .int .i64 1, .int .i64 since, .bool false, .int .i64 fallen] 27)).alloc (.cells #[.int .i64 0, .int .i64 0, .int .i64 0, .int .i64 0, .int .i64 0, .int .i64 0, .int .i64 0, .int .i64 0, .bool false, .int .i64 0] 27))
  clear hp
  go_enter Try.func18, Try.ntmps18
  go_wp2_with fail
  refine (Look_stay_1 A n cap inc delay ps l0 l1 m0 m1 p0 p1 since fallen false now _ hn hP.out H.out HC.out e0 hf hu).mono ?_
  rintro e w1 ⟨rfl, hb⟩
  obtain ⟨hcell, hfr⟩ := bcell hb
  have hs := hb.size
  (try simp only [World.size_alloc] at hs)
  have hz0 : w.heap.size < w1.heap.size := by omega
  have hz1 : w.heap.size + 1 < w1.heap.size := by omega
  have hz2 : w.heap.size + 1 + 1 < w1.heap.size := by omega
  have hbel := ((((Below.refl w.heap.size w).alloc (by go_size) _).alloc (by go_size) _).alloc (by go_size) _).trans (hb.mono (by go_size))
  go_upto_region 2 with (fail)
  generalize hW : ((((((((((w1.setCell ⟨w.heap.size + 1, 0, none⟩ (.int .i64 l0)).setCell ⟨w.heap.size + 1, 1, none⟩ (.int .i64 l1)).setCell ⟨w.heap.size + 1, 2, none⟩ (.int .i64 m0)).setCell ⟨w.heap.size + 1, 3, none⟩ (.int .i64 m1)).setCell ⟨w.heap.size + 1, 4, none⟩ (.int .i64 p0)).setCell ⟨w.heap.size + 1, 5, none⟩ (.int .i64 p1)).setCell ⟨w.heap.size + 1, 6, none⟩ (.int .i64 1)).setCell ⟨w.heap.size + 1, 7, none⟩ (.int .i64 since)).setCell ⟨w.heap.size + 1, 8, none⟩ (.bool false)).setCell ⟨w.heap.size + 1, 9, none⟩ (.int .i64 fallen)) = w2
  have r0 : w2.cell? ⟨w.heap.size, 0, none⟩ = some (.slice A n cap) := by rw [← hW]; simp [hcell, go_sem]
  have r1 : w2.cell? ⟨w.heap.size, 1, none⟩ = some (.int .i64 inc) := by rw [← hW]; simp [hcell, go_sem]
  have r2 : w2.cell? ⟨w.heap.size, 2, none⟩ = some (.int .i64 delay) := by rw [← hW]; simp [hcell, go_sem]
  have c0 : w2.cell? ⟨w.heap.size + 1, 0, none⟩ = some (.int .i64 l0) := by rw [← hW]; simp [hcell, go_sem]
  have c1 : w2.cell? ⟨w.heap.size + 1, 1, none⟩ = some (.int .i64 l1) := by rw [← hW]; simp [hcell, go_sem]
  have c2 : w2.cell? ⟨w.heap.size + 1, 2, none⟩ = some (.int .i64 m0) := by rw [← hW]; simp [hcell, go_sem]
  have c3 : w2.cell? ⟨w.heap.size + 1, 3, none⟩ = some (.int .i64 m1) := by rw [← hW]; simp [hcell, go_sem]
  have c4 : w2.cell? ⟨w.heap.size + 1, 4, none⟩ = some (.int .i64 p0) := by rw [← hW]; simp [hcell, go_sem]
  have c5 : w2.cell? ⟨w.heap.size + 1, 5, none⟩ = some (.int .i64 p1) := by rw [← hW]; simp [hcell, go_sem]
  have c6 : w2.cell? ⟨w.heap.size + 1, 6, none⟩ = some (.int .i64 1) := by rw [← hW]; simp [hcell, go_sem]
  have c7 : w2.cell? ⟨w.heap.size + 1, 7, none⟩ = some (.int .i64 since) := by rw [← hW]; simp [hcell, go_sem]
  have c8 : w2.cell? ⟨w.heap.size + 1, 8, none⟩ = some (.bool false) := by rw [← hW]; simp [hcell, go_sem]
  have c9 : w2.cell? ⟨w.heap.size + 1, 9, none⟩ = some (.int .i64 fallen) := by rw [← hW]; simp [hcell, go_sem]
  have g0 : w2.frozen? ⟨w.heap.size + 1, 0, none⟩ = false := by rw [← hW]; simp [hfr, go_sem]
  have g1 : w2.frozen? ⟨w.heap.size + 1, 1, none⟩ = false := by rw [← hW]; simp [hfr, go_sem]
  have g2 : w2.frozen? ⟨w.heap.size + 1, 2, none⟩ = false := by rw [← hW]; simp [hfr, go_sem]
  have g3 : w2.frozen? ⟨w.heap.size + 1, 3, none⟩ = false := by rw [← hW]; simp [hfr, go_sem]
  have g4 : w2.frozen? ⟨w.heap.size + 1, 4, none⟩ = false := by rw [← hW]; simp [hfr, go_sem]
  have g5 : w2.frozen? ⟨w.heap.size + 1, 5, none⟩ = false := by rw [← hW]; simp [hfr, go_sem]
  have g6 : w2.frozen? ⟨w.heap.size + 1, 6, none⟩ = false := by rw [← hW]; simp [hfr, go_sem]
  have g7 : w2.frozen? ⟨w.heap.size + 1, 7, none⟩ = false := by rw [← hW]; simp [hfr, go_sem]
  have g8 : w2.frozen? ⟨w.heap.size + 1, 8, none⟩ = false := by rw [← hW]; simp [hfr, go_sem]
  have g9 : w2.frozen? ⟨w.heap.size + 1, 9, none⟩ = false := by rw [← hW]; simp [hfr, go_sem]
  have z0 : w2.cell? ⟨w.heap.size + 1 + 1, 0, none⟩ = some (.int .i64 0) := by rw [← hW]; simp [hcell, go_sem]
  have z1 : w2.cell? ⟨w.heap.size + 1 + 1, 1, none⟩ = some (.int .i64 0) := by rw [← hW]; simp [hcell, go_sem]
  have z2 : w2.cell? ⟨w.heap.size + 1 + 1, 2, none⟩ = some (.int .i64 0) := by rw [← hW]; simp [hcell, go_sem]
  have z3 : w2.cell? ⟨w.heap.size + 1 + 1, 3, none⟩ = some (.int .i64 0) := by rw [← hW]; simp [hcell, go_sem]
  have z4 : w2.cell? ⟨w.heap.size + 1 + 1, 4, none⟩ = some (.int .i64 0) := by rw [← hW]; simp [hcell, go_sem]
  have z5 : w2.cell? ⟨w.heap.size + 1 + 1, 5, none⟩ = some (.int .i64 0) := by rw [← hW]; simp [hcell, go_sem]
  have z6 : w2.cell? ⟨w.heap.size + 1 + 1, 6, none⟩ = some (.int .i64 0) := by rw [← hW]; simp [hcell, go_sem]
  have z7 : w2.cell? ⟨w.heap.size + 1 + 1, 7, none⟩ = some (.int .i64 0) := by rw [← hW]; simp [hcell, go_sem]
  have z8 : w2.cell? ⟨w.heap.size + 1 + 1, 8, none⟩ = some (.bool false) := by rw [← hW]; simp [hcell, go_sem]
  have z9 : w2.cell? ⟨w.heap.size + 1 + 1, 9, none⟩ = some (.int .i64 0) := by rw [← hW]; simp [hcell, go_sem]
  have f0 : w2.frozen? ⟨w.heap.size + 1 + 1, 0, none⟩ = false := by rw [← hW]; simp [hfr, go_sem]
  have f1 : w2.frozen? ⟨w.heap.size + 1 + 1, 1, none⟩ = false := by rw [← hW]; simp [hfr, go_sem]
  have f2 : w2.frozen? ⟨w.heap.size + 1 + 1, 2, none⟩ = false := by rw [← hW]; simp [hfr, go_sem]
  have f3 : w2.frozen? ⟨w.heap.size + 1 + 1, 3, none⟩ = false := by rw [← hW]; simp [hfr, go_sem]
  have f4 : w2.frozen? ⟨w.heap.size + 1 + 1, 4, none⟩ = false := by rw [← hW]; simp [hfr, go_sem]
  have f5 : w2.frozen? ⟨w.heap.size + 1 + 1, 5, none⟩ = false := by rw [← hW]; simp [hfr, go_sem]
  have f6 : w2.frozen? ⟨w.heap.size + 1 + 1, 6, none⟩ = false := by rw [← hW]; simp [hfr, go_sem]
  have f7 : w2.frozen? ⟨w.heap.size + 1 + 1, 7, none⟩ = false := by rw [← hW]; simp [hfr, go_sem]
  have f8 : w2.frozen? ⟨w.heap.size + 1 + 1, 8, none⟩ = false := by rw [← hW]; simp [hfr, go_sem]
  have f9 : w2.frozen? ⟨w.heap.size + 1 + 1, 9, none⟩ = false := by rw [← hW]; simp [hfr, go_sem]
  have hs' : w2.heap.size = w1.heap.size := by rw [← hW]; simp
  have y0 : w.heap.size < w2.heap.size := by omega
  have y1 : w.heap.size + 1 < w2.heap.size := by omega
  have y2 : w.heap.size + 1 + 1 < w2.heap.size := by omega
  have hbel2 : Below w.heap.size w w2 := by rw [← hW]; go_grown
  clear hW hcell hfr hbel hs hs' hz0 hz1 hz2 hb
  go_wp2
  refine bodyPost_ret (v := .tuple #[.agg #[.int .i64 l0, .int .i64 l1, .int .i64 m0, .int .i64 m1, .int .i64 p0, .int .i64 p1, .int .i64 1, .int .i64 since, .bool false, .int .i64 fallen], .int .i64 0]) (by simp [results, Try.results18, go_sem, *]) rfl ?_
  refine ⟨rfl, ?_⟩
  go_grown

set_option maxHeartbeats 1000000 in
theorem ready_state_1_false (A : Option Addr) (n cap : Nat) (inc delay : Int) (ps : List (Int × Int)) (l0 l1 m0 m1 p0 p1 since fallen : Int) (now : Int) (w : World) (hn : n ≤ 9223372036854775807) (hp : PerAt w w.heap.size A n ps) (hr : RuleOk n inc delay ps) (hk : ClkOk n l0 l1 m0 m1 p0 p1 1 since fallen) (e0 : witB now since 100000000 = true) (hf : fallen < 0) (hu : usedZ true delay since now ≤ l1) :
    Calls Try.prog 18 #[.agg #[.slice A n cap, .int .i64 inc, .int .i64 delay], .agg #[.int .i64 l0, .int .i64 l1, .int .i64 m0, .int .i64 m1, .int .i64 p0, .int .i64 p1, .int .i64 1, .int .i64 since, .bool true, .int .i64 fallen], .int .i64 now, .bool false] w (fun e w' => e = .returned (.tuple #[.agg #[.int .i64 0, .int .i64 0, .int .i64 0, .int .i64 0, .int .i64 0, .int .i64 0, .int .i64 0, .int .i64 0, .bool false, .int .i64 0], .int .i64 10]) ∧ Below w.heap.size w w') := by
  have H := Lib.hid hr
  have HC := Lib.hid hk
  clear hr hk
  have hP := Lib.hid (((hp.alloc (.cells #[.slice A n cap, .int .i64 inc, .int .i64 delay] 24)).alloc (.cells #[.int .i64 l0, .int .i64 l1, .int .i64 m0, .int .i64 m1, .int .i64 p0, .int .i64 p1, .int .i64 1, .int .i64 since, .bool true, .int .i64 fallen] 27)).alloc (.cells #[.int .i64 0, .int .i64 0, .int .i64 0, .int .i64 0, .int .i64 0, .int .i64 0, .int .i64 0, .int .i64 0, .bool false, .int .i64 0] 27))
  clear hp
  go_enter Try.func18, Try.ntmps18
  go_wp2_with fail
  refine (Look_stay_1 A n cap inc delay ps l0 l1 m0 m1 p0 p1 since fallen true now _ hn hP.out H.out HC.out e0 hf hu).mono ?_
  rintro e w1 ⟨rfl, hb⟩
  obtain ⟨hcell, hfr⟩ := bcell hb
  have hs := hb.size
  (try simp only [World.size_alloc] at hs)
  have hz0 : w.heap.size < w1.heap.size := by omega
  have hz1 : w.heap.size + 1 < w1.heap.size := by omega
  have hz2 : w.heap.size + 1 + 1 < w1.heap.size := by omega
  have hbel := ((((Below.refl w.heap.size w).alloc (by go_size) _).alloc (by go_size) _).alloc (by go_size) _).trans (hb.mono (by go_size))
  go_upto_region 2 with (fail)
  generalize hW : ((((((((((w1.setCell ⟨w.heap.size + 1, 0, none⟩ (.int .i64 l0)).setCell ⟨w.heap.size + 1, 1, none⟩ (.int .i64 l1)).setCell ⟨w.heap.size + 1, 2, none⟩ (.int .i64 m0)).setCell ⟨w.heap.size + 1, 3, none⟩ (.int .i64 m1)).setCell ⟨w.heap.size + 1, 4, none⟩ (.int .i64 p0)).setCell ⟨w.heap.size + 1, 5, none⟩ (.int .i64 p1)).setCell ⟨w.heap.size + 1, 6, none⟩ (.int .i64 1)).setCell ⟨w.heap.size + 1, 7, none⟩ (.int .i64 since)).setCell ⟨w.heap.size + 1, 8, none⟩ (.bool true)).setCell ⟨w.heap.size + 1, 9, none⟩ (.int .i64 fallen)) = w2
  have r0 : w2.cell? ⟨w.heap.size, 0, none⟩ = some (.slice A n cap) := by rw [← hW]; simp [hcell, go_sem]
  have r1 : w2.cell? ⟨w.heap.size, 1, none⟩ = some (.int .i64 inc) := by rw [← hW]; simp [hcell, go_sem]
  have r2 : w2.cell? ⟨w.heap.size, 2, none⟩ = some (.int .i64 delay) := by rw [← hW]; simp [hcell, go_sem]
  have c0 : w2.cell? ⟨w.heap.size + 1, 0, none⟩ = some (.int .i64 l0) := by rw [← hW]; simp [hcell, go_sem]
  have c1 : w2.cell? ⟨w.heap.size + 1, 1, none⟩ = some (.int .i64 l1) := by rw [← hW]; simp [hcell, go_sem]
  have c2 : w2.cell? ⟨w.heap.size + 1, 2, none⟩ = some (.int .i64 m0) := by rw [← hW]; simp [hcell, go_sem]
  have c3 : w2.cell? ⟨w.heap.size + 1, 3, none⟩ = some (.int .i64 m1) := by rw [← hW]; simp [hcell, go_sem]
  have c4 : w2.cell? ⟨w.heap.size + 1, 4, none⟩ = some (.int .i64 p0) := by rw [← hW]; simp [hcell, go_sem]
  have c5 : w2.cell? ⟨w.heap.size + 1, 5, none⟩ = some (.int .i64 p1) := by rw [← hW]; simp [hcell, go_sem]
  have c6 : w2.cell? ⟨w.heap.size + 1, 6, none⟩ = some (.int .i64 1) := by rw [← hW]; simp [hcell, go_sem]
  have c7 : w2.cell? ⟨w.heap.size + 1, 7, none⟩ = some (.int .i64 since) := by rw [← hW]; simp [hcell, go_sem]
  have c8 : w2.cell? ⟨w.heap.size + 1, 8, none⟩ = some (.bool true) := by rw [← hW]; simp [hcell, go_sem]
  have c9 : w2.cell? ⟨w.heap.size + 1, 9, none⟩ = some (.int .i64 fallen) := by rw [← hW]; simp [hcell, go_sem]
  have g0 : w2.frozen? ⟨w.heap.size + 1, 0, none⟩ = false := by rw [← hW]; simp [hfr, go_sem]
  have g1 : w2.frozen? ⟨w.heap.size + 1, 1, none⟩ = false := by rw [← hW]; simp [hfr, go_sem]
  have g2 : w2.frozen? ⟨w.heap.size + 1, 2, none⟩ = false := by rw [← hW]; simp [hfr, go_sem]
  have g3 : w2.frozen? ⟨w.heap.size + 1, 3, none⟩ = false := by rw [← hW]; simp [hfr, go_sem]
  have g4 : w2.frozen? ⟨w.heap.size + 1, 4, none⟩ = false := by rw [← hW]; simp [hfr, go_sem]
  have g5 : w2.frozen? ⟨w.heap.size + 1, 5, none⟩ = false := by rw [← hW]; simp [hfr, go_sem]
  have g6 : w2.frozen? ⟨w.heap.size + 1, 6, none⟩ = false := by rw [← hW]; simp [hfr, go_sem]
  have g7 : w2.frozen? ⟨w.heap.size + 1, 7, none⟩ = false := by rw [← hW]; simp [hfr, go_sem]
  have g8 : w2.frozen? ⟨w.heap.size + 1, 8, none⟩ = false := by rw [← hW]; simp [hfr, go_sem]
  have g9 : w2.frozen? ⟨w.heap.size + 1, 9, none⟩ = false := by rw [← hW]; simp [hfr, go_sem]
  have z0 : w2.cell? ⟨w.heap.size + 1 + 1, 0, none⟩ = some (.int .i64 0) := by rw [← hW]; simp [hcell, go_sem]
  have z1 : w2.cell? ⟨w.heap.size + 1 + 1, 1, none⟩ = some (.int .i64 0) := by rw [← hW]; simp [hcell, go_sem]
  have z2 : w2.cell? ⟨w.heap.size + 1 + 1, 2, none⟩ = some (.int .i64 0) := by rw [← hW]; simp [hcell, go_sem]
  have z3 : w2.cell? ⟨w.heap.size + 1 + 1, 3, none⟩ = some (.int .i64 0) := by rw [← hW]; simp [hcell, go_sem]
  have z4 : w2.cell? ⟨w.heap.size + 1 + 1, 4, none⟩ = some (.int .i64 0) := by rw [← hW]; simp [hcell, go_sem]
  have z5 : w2.cell? ⟨w.heap.size + 1 + 1, 5, none⟩ = some (.int .i64 0) := by rw [← hW]; simp [hcell, go_sem]
  have z6 : w2.cell? ⟨w.heap.size + 1 + 1, 6, none⟩ = some (.int .i64 0) := by rw [← hW]; simp [hcell, go_sem]
  have z7 : w2.cell? ⟨w.heap.size + 1 + 1, 7, none⟩ = some (.int .i64 0) := by rw [← hW]; simp [hcell, go_sem]
  have z8 : w2.cell? ⟨w.heap.size + 1 + 1, 8, none⟩ = some (.bool false) := by rw [← hW]; simp [hcell, go_sem]
  have z9 : w2.cell? ⟨w.heap.size + 1 + 1, 9, none⟩ = some (.int .i64 0) := by rw [← hW]; simp [hcell, go_sem]
  have f0 : w2.frozen? ⟨w.heap.size + 1 + 1, 0, none⟩ = false := by rw [← hW]; simp [hfr, go_sem]
  have f1 : w2.frozen? ⟨w.heap.size + 1 + 1, 1, none⟩ = false := by rw [← hW]; simp [hfr, go_sem]
  have f2 : w2.frozen? ⟨w.heap.size + 1 + 1, 2, none⟩ = false := by rw [← hW]; simp [hfr, go_sem]
  have f3 : w2.frozen? ⟨w.heap.size + 1 + 1, 3, none⟩ = false := by rw [← hW]; simp [hfr, go_sem]
  have f4 : w2.frozen? ⟨w.heap.size + 1 + 1, 4, none⟩ = false := by rw [← hW]; simp [hfr, go_sem]
  have f5 : w2.frozen? ⟨w.heap.size + 1 + 1, 5, none⟩ = false := by rw [← hW]; simp [hfr, go_sem]
  have f6 : w2.frozen? ⟨w.heap.size + 1 + 1, 6, none⟩ = false := by rw [← hW]; simp [hfr, go_sem]
  have f7 : w2.frozen? ⟨w.heap.size + 1 + 1, 7, none⟩ = false := by rw [← hW]; simp [hfr, go_sem]
  have f8 : w2.frozen? ⟨w.heap.size + 1 + 1, 8, none⟩ = false := by rw [← hW]; simp [hfr, go_sem]
  have f9 : w2.frozen? ⟨w.heap.size + 1 + 1, 9, none⟩ = false := by rw [← hW]; simp [hfr, go_sem]
  have hs' : w2.heap.size = w1.heap.size := by rw [← hW]; simp
  have y0 : w.heap.size < w2.heap.size := by omega
  have y1 : w.heap.size + 1 < w2.heap.size := by omega
  have y2 : w.heap.size + 1 + 1 < w2.heap.size := by omega
  have hbel2 : Below w.heap.size w w2 := by rw [← hW]; go_grown
  clear hW hcell hfr hbel hs hs' hz0 hz1 hz2 hb
  go_wp2
  refine bodyPost_ret (v := .tuple #[.agg #[.int .i64 0, .int .i64 0, .int .i64 0, .int .i64 0, .int .i64 0, .int .i64 0, .int .i64 0, .int .i64 0, .bool false, .int .i64 0], .int .i64 10]) (by simp [results, Try.results18, go_sem, *]) rfl ?_
  refine ⟨rfl, ?_⟩
  go_grown

set_option maxHeartbeats 1000000 in
theorem ready_state_1_true (A : Option Addr) (n cap : Nat) (inc delay : Int) (ps : List (Int × Int)) (l0 l1 m0 m1 p0 p1 since fallen : Int) (now : Int) (w : World) (hn : n ≤ 9223372036854775807) (hp : PerAt w w.heap.size A n ps) (hr : RuleOk n inc delay ps) (hk : ClkOk n l0 l1 m0 m1 p0 p1 1 since fallen) (e0 : witB now since 100000000 = true) (hf : fallen < 0) (hu : usedZ false delay since now ≤ l1) :
    Calls Try.prog 18 #[.agg #[.slice A n cap, .int .i64 inc, .int .i64 delay], .agg #[.int .i64 l0, .int .i64 l1, .int .i64 m0, .int .i64 m1, .int .i64 p0, .int .i64 p1, .int .i64 1, .int .i64 since, .bool false, .int .i64 fallen], .int .i64 now, .bool true] w (fun e w' => e = .returned (.tuple #[.agg #[.int .i64 0, .int .i64 0, .int .i64 0, .int .i64 0, .int .i64 0, .int .i64 0, .int .i64 0, .int .i64 0, .bool false, .int .i64 0], .int .i64 10]) ∧ Below w.heap.size w w') := by
  have H := Lib.hid hr
  have HC := Lib.hid hk
  clear hr hk
  have hP := Lib.hid (((hp.alloc (.cells #[.slice A n cap, .int .i64 inc, .int .i64 delay] 24)).alloc (.cells #[.int .i64 l0, .int .i64 l1, .int .i64 m0, .int .i64 m1, .int .i64 p0, .int .i64 p1, .int .i64 1, .int .i64 since, .bool false, .int .i64 fallen] 27)).alloc (.cells #[.int .i64 0, .int .i64 0, .int .i64 0, .int .i64 0, .int .i64 0, .int .i64 0, .int .i64 0, .int .i64 0, .bool false, .int .i64 0] 27))
  clear hp
  go_enter Try.func18, Try.ntmps18
  go_wp2_with fail
  refine (Look_stay_1 A n cap inc delay ps l0 l1 m0 m1 p0 p1 since fallen false now _ hn hP.out H.out HC.out e0 hf hu).mono ?_
  rintro e w1 ⟨rfl, hb⟩
  obtain ⟨hcell, hfr⟩ := bcell hb
  have hs := hb.size
  (try simp only [World.size_alloc] at hs)
  have hz0 : w.heap.size < w1.heap.size := by omega
  have hz1 : w.heap.size + 1 < w1.heap.size := by omega
  have hz2 : w.heap.size + 1 + 1 < w1.heap.size := by omega
  have hbel := ((((Below.refl w.heap.size w).alloc (by go_size) _).alloc (by go_size) _).alloc (by go_size) _).trans (hb.mono (by go_size))
  go_upto_region 2 with (fail)
  generalize hW : ((((((((((w1.setCell ⟨w.heap.size + 1, 0, none⟩ (.int .i64 l0)).setCell ⟨w.heap.size + 1, 1, none⟩ (.int .i64 l1)).setCell ⟨w.heap.size + 1, 2, none⟩ (.int .i64 m0)).setCell ⟨w.heap.size + 1, 3, none⟩ (.int .i64 m1)).setCell ⟨w.heap.size + 1, 4, none⟩ (.int .i64 p0)).setCell ⟨w.heap.size + 1, 5, none⟩ (.int .i64 p1)).setCell ⟨w.heap.size + 1, 6, none⟩ (.int .i64 1)).setCell ⟨w.heap.size + 1, 7, none⟩ (.int .i64 since)).setCell ⟨w.heap.size + 1, 8, none⟩ (.bool false)).setCell ⟨w.heap.size + 1, 9, none⟩ (.int .i64 fallen)) = w2
  have r0 : w2.cell? ⟨w.heap.size, 0, none⟩ = some (.slice A n cap) := by rw [← hW]; simp [hcell, go_sem]
  have r1 : w2.cell? ⟨w.heap.size, 1, none⟩ = some (.int .i64 inc) := by rw [← hW]; simp [hcell, go_sem]
  have r2 : w2.cell? ⟨w.heap.size, 2, none⟩ = some (.int .i64 delay) := by rw [← hW]; simp [hcell, go_sem]
  have c0 : w2.cell? ⟨w.heap.size + 1, 0, none⟩ = some (.int .i64 l0) := by rw [← hW]; simp [hcell, go_sem]
  have c1 : w2.cell? ⟨w.heap.size + 1, 1, none⟩ = some (.int .i64 l1) := by rw [← hW]; simp [hcell, go_sem]
  have c2 : w2.cell? ⟨w.heap.size + 1, 2, none⟩ = some (.int .i64 m0) := by rw [← hW]; simp [hcell, go_sem]
  have c3 : w2.cell? ⟨w.heap.size + 1, 3, none⟩ = some (.int .i64 m1) := by rw [← hW]; simp [hcell, go_sem]
  have c4 : w2.cell? ⟨w.heap.size + 1, 4, none⟩ = some (.int .i64 p0) := by rw [← hW]; simp [hcell, go_sem]
  have c5 : w2.cell? ⟨w.heap.size + 1, 5, none⟩ = some (.int .i64 p1) := by rw [← hW]; simp [hcell, go_sem]
  have c6 : w2.cell? ⟨w.heap.size + 1, 6, none⟩ = some (.int .i64 1) := by rw [← hW]; simp [hcell, go_sem]
  have c7 : w2.cell? ⟨w.heap.size + 1, 7, none⟩ = some (.int .i64 since) := by rw [← hW]; simp [hcell, go_sem]
  have c8 : w2.cell? ⟨w.heap.size + 1, 8, none⟩ = some (.bool false) := by rw [← hW]; simp [hcell, go_sem]
  have c9 : w2.cell? ⟨w.heap.size + 1, 9, none⟩ = some (.int .i64 fallen) := by rw [← hW]; simp [hcell, go_sem]
  have g0 : w2.frozen? ⟨w.heap.size + 1, 0, none⟩ = false := by rw [← hW]; simp [hfr, go_sem]
  have g1 : w2.frozen? ⟨w.heap.size + 1, 1, none⟩ = false := by rw [← hW]; simp [hfr, go_sem]
  have g2 : w2.frozen? ⟨w.heap.size + 1, 2, none⟩ = false := by rw [← hW]; simp [hfr, go_sem]
  have g3 : w2.frozen? ⟨w.heap.size + 1, 3, none⟩ = false := by rw [← hW]; simp [hfr, go_sem]
  have g4 : w2.frozen? ⟨w.heap.size + 1, 4, none⟩ = false := by rw [← hW]; simp [hfr, go_sem]
  have g5 : w2.frozen? ⟨w.heap.size + 1, 5, none⟩ = false := by rw [← hW]; simp [hfr, go_sem]
  have g6 : w2.frozen? ⟨w.heap.size + 1, 6, none⟩ = false := by rw [← hW]; simp [hfr, go_sem]
  have g7 : w2.frozen? ⟨w.heap.size + 1, 7, none⟩ = false := by rw [← hW]; simp [hfr, go_sem]
  have g8 : w2.frozen? ⟨w.heap.size + 1, 8, none⟩ = false := by rw [← hW]; simp [hfr, go_sem]
  have g9 : w2.frozen? ⟨w.heap.size + 1, 9, none⟩ = false := by rw [← hW]; simp [hfr, go_sem]
  have z0 : w2.cell? ⟨w.heap.size + 1 + 1, 0, none⟩ = some (.int .i64 0) := by rw [← hW]; simp [hcell, go_sem]
  have z1 : w2.cell? ⟨w.heap.size + 1 + 1, 1, none⟩ = some (.int .i64 0) := by rw [← hW]; simp [hcell, go_sem]
  have z2 : w2.cell? ⟨w.heap.size + 1 + 1, 2, none⟩ = some (.int .i64 0) := by rw [← hW]; simp [hcell, go_sem]
  have z3 : w2.cell? ⟨w.heap.size + 1 + 1, 3, none⟩ = some (.int .i64 0) := by rw [← hW]; simp [hcell, go_sem]
  have z4 : w2.cell? ⟨w.heap.size + 1 + 1, 4, none⟩ = some (.int .i64 0) := by rw [← hW]; simp [hcell, go_sem]
  have z5 : w2.cell? ⟨w.heap.size + 1 + 1, 5, none⟩ = some (.int .i64 0) := by rw [← hW]; simp [hcell, go_sem]
  have z6 : w2.cell? ⟨w.heap.size + 1 + 1, 6, none⟩ = some (.int .i64 0) := by rw [← hW]; simp [hcell, go_sem]
  have z7 : w2.cell? ⟨w.heap.size + 1 + 1, 7, none⟩ = some (.int .i64 0) := by rw [← hW]; simp [hcell, go_sem]
  have z8 : w2.cell? ⟨w.heap.size + 1 + 1, 8, none⟩ = some (.bool false) := by rw [← hW]; simp [hcell, go_sem]
  have z9 : w2.cell? ⟨w.heap.size + 1 + 1, 9, none⟩ = some (.int .i64 0) := by rw [← hW]; simp [hcell, go_sem]
  have f0 : w2.frozen? ⟨w.heap.size + 1 + 1, 0, none⟩ = false := by rw [← hW]; simp [hfr, go_sem]
  have f1 : w2.frozen? ⟨w.heap.size + 1 + 1, 1, none⟩ = false := by rw [← hW]; simp [hfr, go_sem]
  have f2 : w2.frozen? ⟨w.heap.size + 1 + 1, 2, none⟩ = false := by rw [← hW]; simp [hfr, go_sem]
  have f3 : w2.frozen? ⟨w.heap.size + 1 + 1, 3, none⟩ = false := by rw [← hW]; simp [hfr, go_sem]
  have f4 : w2.frozen? ⟨w.heap.size + 1 + 1, 4, none⟩ = false := by rw [← hW]; simp [hfr, go_sem]
  have f5 : w2.frozen? ⟨w.heap.size + 1 + 1, 5, none⟩ = false := by rw [← hW]; simp [hfr, go_sem]
  have f6 : w2.frozen? ⟨w.heap.size + 1 + 1, 6, none⟩ = false := by rw [← hW]; simp [hfr, go_sem]
  have f7 : w2.frozen? ⟨w.heap.size + 1 + 1, 7, none⟩ = false := by rw [← hW]; simp [hfr, go_sem]
  have f8 : w2.frozen? ⟨w.heap.size + 1 + 1, 8, none⟩ = false := by rw [← hW]; simp [hfr, go_sem]
  have f9 : w2.frozen? ⟨w.heap.size + 1 + 1, 9, none⟩ = false := by rw [← hW]; simp [hfr, go_sem]
  have hs' : w2.heap.size = w1.heap.size := by rw [← hW]; simp
  have y0 : w.heap.size < w2.heap.size := by omega
  have y1 : w.heap.size + 1 < w2.heap.size := by omega
  have y2 : w.heap.size + 1 + 1 < w2.heap.size := by omega
  have hbel2 : Below w.heap.size w w2 := by rw [← hW]; go_grown
  clear hW hcell hfr hbel hs hs' hz0 hz1 hz2 hb
  go_wp2
  refine bodyPost_ret (v := .tuple #[.agg #[.int .i64 0, .int .i64 0, .int .i64 0, .int .i64 0, .int .i64 0, .int .i64 0, .int .i64 0, .int .i64 0, .bool false, .int .i64 0], .int .i64 10]) (by simp [results, Try.results18, go_sem, *]) rfl ?_
  refine ⟨rfl, ?_⟩
  go_grown

set_option maxHeartbeats 1000000 in
theorem Press_err (A : Option Addr) (n cap : Nat) (inc delay : Int) (ps : List (Int × Int)) (l0 l1 m0 m1 p0 p1 turn since fallen : Int) (st : Bool) (now : Int) (w : World) (hn : n ≤ 9223372036854775807) (hp : PerAt w w.heap.size A n ps) (Q : Int → Prop) (hQ : ∀ c, Q c → c ≠ 0)
    (hrd : ∀ W : World, PerAt W W.heap.size A n ps → Calls Try.prog 18 #[.agg #[.slice A n cap, .int .i64 inc, .int .i64 delay], .agg #[.int .i64 l0, .int .i64 l1, .int .i64 m0, .int .i64 m1, .int .i64 p0, .int .i64 p1, .int .i64 turn, .int .i64 since, .bool st, .int .i64 fallen], .int .i64 now, .bool false] W (fun e w' => ∃ c : Int, Q c ∧ e = .returned (.tuple #[.agg #[.int .i64 0, .int .i64 0, .int .i64 0, .int .i64 0, .int .i64 0, .int .i64 0, .int .i64 0, .int .i64 0, .bool false, .int .i64 0], .int .i64 c]) ∧ Below W.heap.size W w')) :
    Calls Try.prog 9 #[.agg #[.slice A n cap, .int .i64 inc, .int .i64 delay], .agg #[.int .i64 l0, .int .i64 l1, .int .i64 m0, .int .i64 m1, .int .i64 p0, .int .i64 p1, .int .i64 turn, .int .i64 since, .bool st, .int .i64 fallen], .int .i64 now] w (fun e w' => ∃ c : Int, Q c ∧ e = .returned (.tuple #[.agg #[.int .i64 0, .int .i64 0, .int .i64 0, .int .i64 0, .int .i64 0, .int .i64 0, .int .i64 0, .int .i64 0, .bool false, .int .i64 0], .int .i64 c]) ∧ Below w.heap.size w w') := by
  have HR := Lib.hid hrd
  have HQ := Lib.hid hQ
  clear hrd hQ
  have hP := Lib.hid (((hp.alloc (.cells #[.slice A n cap, .int .i64 inc, .int .i64 delay] 24)).alloc (.cells #[.int .i64 l0, .int .i64 l1, .int .i64 m0, .int .i64 m1, .int .i64 p0, .int .i64 p1, .int .i64 turn, .int .i64 since, .bool st, .int .i64 fallen] 27)).alloc (.cells #[.int .i64 0, .int .i64 0, .int .i64 0, .int .i64 0, .int .i64 0, .int .i64 0, .int .i64 0, .int .i64 0, .bool false, .int .i64 0] 27))
  clear hp
  go_enter Try.func9, Try.ntmps9
  go_wp2_with fail
  refine (HR.out _ hP.out).mono ?_
  rintro e w1 ⟨c, hq, rfl, hb⟩
  have h1 : (c != 0) = true := by simpa using HQ.out c hq
  have Hq := Lib.hid hq
  clear hq
  obtain ⟨hcell, hfr⟩ := bcell hb
  have hs := hb.size
  (try simp only [World.size_alloc] at hs)
  have hz0 : w.heap.size < w1.heap.size := by omega
  have hz1 : w.heap.size + 1 < w1.heap.size := by omega
  have hz2 : w.heap.size + 1 + 1 < w1.heap.size := by omega
  have hbel := ((((Below.refl w.heap.size w).alloc (by go_size) _).alloc (by go_size) _).alloc (by go_size) _).trans (hb.mono (by go_size))
  go_upto_region 2 with (fail)
  generalize hW : ((((((((((w1.setCell ⟨w.heap.size + 1, 0, none⟩ (.int .i64 0)).setCell ⟨w.heap.size + 1, 1, none⟩ (.int .i64 0)).setCell ⟨w.heap.size + 1, 2, none⟩ (.int .i64 0)).setCell ⟨w.heap.size + 1, 3, none⟩ (.int .i64 0)).setCell ⟨w.heap.size + 1, 4, none⟩ (.int .i64 0)).setCell ⟨w.heap.size + 1, 5, none⟩ (.int .i64 0)).setCell ⟨w.heap.size + 1, 6, none⟩ (.int .i64 0)).setCell ⟨w.heap.size + 1, 7, none⟩ (.int .i64 0)).setCell ⟨w.heap.size + 1, 8, none⟩ (.bool false)).setCell ⟨w.heap.size + 1, 9, none⟩ (.int .i64 0)) = w2
  have r0 : w2.cell? ⟨w.heap.size, 0, none⟩ = some (.slice A n cap) := by rw [← hW]; simp [hcell, go_sem]
  have r1 : w2.cell? ⟨w.heap.size, 1, none⟩ = some (.int .i64 inc) := by rw [← hW]; simp [hcell, go_sem]
  have r2 : w2.cell? ⟨w.heap.size, 2, none⟩ = some (.int .i64 delay) := by rw [← hW]; simp [hcell, go_sem]
  have c0 : w2.cell? ⟨w.heap.size + 1, 0, none⟩ = some (.int .i64 0) := by rw [← hW]; simp [hcell, go_sem]
  have c1 : w2.cell? ⟨w.heap.size + 1, 1, none⟩ = some (.int .i64 0) := by rw [← hW]; simp [hcell, go_sem]
  have c2 : w2.cell? ⟨w.heap.size + 1, 2, none⟩ = some (.int .i64 0) := by rw [← hW]; simp [hcell, go_sem]
  have c3 : w2.cell? ⟨w.heap.size + 1, 3, none⟩ = some (.int .i64 0) := by rw [← hW]; simp [hcell, go_sem]
  have c4 : w2.cell? ⟨w.heap.size + 1, 4, none⟩ = some (.int .i64 0) := by rw [← hW]; simp [hcell, go_sem]
  have c5 : w2.cell? ⟨w.heap.size + 1, 5, none⟩ = some (.int .i64 0) := by rw [← hW]; simp [hcell, go_sem]
  have c6 : w2.cell? ⟨w.heap.size + 1, 6, none⟩ = some (.int .i64 0) := by rw [← hW]; simp [hcell, go_sem]
  have c7 : w2.cell? ⟨w.heap.size + 1, 7, none⟩ = some (.int .i64 0) := by rw [← hW]; simp [hcell, go_sem]
  have c8 : w2.cell? ⟨w.heap.size + 1, 8, none⟩ = some (.bool false) := by rw [← hW]; simp [hcell, go_sem]
  have c9 : w2.cell? ⟨w.heap.size + 1, 9, none⟩ = some (.int .i64 0) := by rw [← hW]; simp [hcell, go_sem]
  have g0 : w2.frozen? ⟨w.heap.size + 1, 0, none⟩ = false := by rw [← hW]; simp [hfr, go_sem]
  have g1 : w2.frozen? ⟨w.heap.size + 1, 1, none⟩ = false := by rw [← hW]; simp [hfr, go_sem]
  have g2 : w2.frozen? ⟨w.heap.size + 1, 2, none⟩ = false := by rw [← hW]; simp [hfr, go_sem]
  have g3 : w2.frozen? ⟨w.heap.size + 1, 3, none⟩ = false := by rw [← hW]; simp [hfr, go_sem]
  have g4 : w2.frozen? ⟨w.heap.size + 1, 4, none⟩ = false := by rw [← hW]; simp [hfr, go_sem]
  have g5 : w2.frozen? ⟨w.heap.size + 1, 5, none⟩ = false := by rw [← hW]; simp [hfr, go_sem]
  have g6 : w2.frozen? ⟨w.heap.size + 1, 6, none⟩ = false := by rw [← hW]; simp [hfr, go_sem]
  have g7 : w2.frozen? ⟨w.heap.size + 1, 7, none⟩ = false := by rw [← hW]; simp [hfr, go_sem]
  have g8 : w2.frozen? ⟨w.heap.size + 1, 8, none⟩ = false := by rw [← hW]; simp [hfr, go_sem]
  have g9 : w2.frozen? ⟨w.heap.size + 1, 9, none⟩ = false := by rw [← hW]; simp [hfr, go_sem]
  have z0 : w2.cell? ⟨w.heap.size + 1 + 1, 0, none⟩ = some (.int .i64 0) := by rw [← hW]; simp [hcell, go_sem]
  have z1 : w2.cell? ⟨w.heap.size + 1 + 1, 1, none⟩ = some (.int .i64 0) := by rw [← hW]; simp [hcell, go_sem]
  have z2 : w2.cell? ⟨w.heap.size + 1 + 1, 2, none⟩ = some (.int .i64 0) := by rw [← hW]; simp [hcell, go_sem]
  have z3 : w2.cell? ⟨w.heap.size + 1 + 1, 3, none⟩ = some (.int .i64 0) := by rw [← hW]; simp [hcell, go_sem]
  have z4 : w2.cell? ⟨w.heap.size + 1 + 1, 4, none⟩ = some (.int .i64 0) := by rw [← hW]; simp [hcell, go_sem]
  have z5 : w2.cell? ⟨w.heap.size + 1 + 1, 5, none⟩ = some (.int .i64 0) := by rw [← hW]; simp [hcell, go_sem]
  have z6 : w2.cell? ⟨w.heap.size + 1 + 1, 6, none⟩ = some (.int .i64 0) := by rw [← hW]; simp [hcell, go_sem]
  have z7 : w2.cell? ⟨w.heap.size + 1 + 1, 7, none⟩ = some (.int .i64 0) := by rw [← hW]; simp [hcell, go_sem]
  have z8 : w2.cell? ⟨w.heap.size + 1 + 1, 8, none⟩ = some (.bool false) := by rw [← hW]; simp [hcell, go_sem]
  have z9 : w2.cell? ⟨w.heap.size + 1 + 1, 9, none⟩ = some (.int .i64 0) := by rw [← hW]; simp [hcell, go_sem]
  have f0 : w2.frozen? ⟨w.heap.size + 1 + 1, 0, none⟩ = false := by rw [← hW]; simp [hfr, go_sem]
  have f1 : w2.frozen? ⟨w.heap.size + 1 + 1, 1, none⟩ = false := by rw [← hW]; simp [hfr, go_sem]
  have f2 : w2.frozen? ⟨w.heap.size + 1 + 1, 2, none⟩ = false := by rw [← hW]; simp [hfr, go_sem]
  have f3 : w2.frozen? ⟨w.heap.size + 1 + 1, 3, none⟩ = false := by rw [← hW]; simp [hfr, go_sem]
  have f4 : w2.frozen? ⟨w.heap.size + 1 + 1, 4, none⟩ = false := by rw [← hW]; simp [hfr, go_sem]
  have f5 : w2.frozen? ⟨w.heap.size + 1 + 1, 5, none⟩ = false := by rw [← hW]; simp [hfr, go_sem]
  have f6 : w2.frozen? ⟨w.heap.size + 1 + 1, 6, none⟩ = false := by rw [← hW]; simp [hfr, go_sem]
  have f7 : w2.frozen? ⟨w.heap.size + 1 + 1, 7, none⟩ = false := by rw [← hW]; simp [hfr, go_sem]
  have f8 : w2.frozen? ⟨w.heap.size + 1 + 1, 8, none⟩ = false := by rw [← hW]; simp [hfr, go_sem]
  have f9 : w2.frozen? ⟨w.heap.size + 1 + 1, 9, none⟩ = false := by rw [← hW]; simp [hfr, go_sem]
  have hs' : w2.heap.size = w1.heap.size := by rw [← hW]; simp
  have y0 : w.heap.size < w2.heap.size := by omega
  have y1 : w.heap.size + 1 < w2.heap.size := by omega
  have y2 : w.heap.size + 1 + 1 < w2.heap.size := by omega
  have hbel2 : Below w.heap.size w w2 := by rw [← hW]; go_grown
  clear hW hcell hfr hbel hs hs' hz0 hz1 hz2 hb
  go_wp2
  refine bodyPost_ret (v := .tuple #[.agg #[.int .i64 0, .int .i64 0, .int .i64 0, .int .i64 0, .int .i64 0, .int .i64 0, .int .i64 0, .int .i64 0, .bool false, .int .i64 0], .int .i64 c]) (by simp [results, Try.results9, go_sem, *]) rfl ?_
  refine ⟨c, Hq.out, rfl, ?_⟩
  go_grown

set_option maxHeartbeats 1000000 in
theorem Stop_err (A : Option Addr) (n cap : Nat) (inc delay : Int) (ps : List (Int × Int)) (l0 l1 m0 m1 p0 p1 turn since fallen : Int) (st : Bool) (now : Int) (w : World) (hn : n ≤ 9223372036854775807) (hp : PerAt w w.heap.size A n ps) (Q : Int → Prop) (hQ : ∀ c, Q c → c ≠ 0)
    (hrd : ∀ W : World, PerAt W W.heap.size A n ps → Calls Try.prog 18 #[.agg #[.slice A n cap, .int .i64 inc, .int .i64 delay], .agg #[.int .i64 l0, .int .i64 l1, .int .i64 m0, .int .i64 m1, .int .i64 p0, .int .i64 p1, .int .i64 turn, .int .i64 since, .bool st, .int .i64 fallen], .int .i64 now, .bool false] W (fun e w' => ∃ c : Int, Q c ∧ e = .returned (.tuple #[.agg #[.int .i64 0, .int .i64 0, .int .i64 0, .int .i64 0, .int .i64 0, .int .i64 0, .int .i64 0, .int .i64 0, .bool false, .int .i64 0], .int .i64 c]) ∧ Below W.heap.size W w')) :
    Calls Try.prog 10 #[.agg #[.slice A n cap, .int .i64 inc, .int .i64 delay], .agg #[.int .i64 l0, .int .i64 l1, .int .i64 m0, .int .i64 m1, .int .i64 p0, .int .i64 p1, .int .i64 turn, .int .i64 since, .bool st, .int .i64 fallen], .int .i64 now] w (fun e w' => ∃ c : Int, Q c ∧ e = .returned (.tuple #[.agg #[.int .i64 0, .int .i64 0, .int .i64 0, .int .i64 0, .int .i64 0, .int .i64 0, .int .i64 0, .int .i64 0, .bool false, .int .i64 0], .int .i64 c]) ∧ Below w.heap.size w w') := by
  have HR := Lib.hid hrd
  have HQ := Lib.hid hQ
  clear hrd hQ
  have hP := Lib.hid (((hp.alloc (.cells #[.slice A n cap, .int .i64 inc, .int .i64 delay] 24)).alloc (.cells #[.int .i64 l0, .int .i64 l1, .int .i64 m0, .int .i64 m1, .int .i64 p0, .int .i64 p1, .int .i64 turn, .int .i64 since, .bool st, .int .i64 fallen] 27)).alloc (.cells #[.int .i64 0, .int .i64 0, .int .i64 0, .int .i64 0, .int .i64 0, .int .i64 0, .int .i64 0, .int .i64 0, .bool false, .int .i64 0] 27))
  clear hp
  go_enter Try.func10, Try.ntmps10
  go_wp2_with fail
  refine (HR.out _ hP.out).mono ?_
  rintro e w1 ⟨c, hq, rfl, hb⟩
  have h1 : (c != 0) = true := by simpa using HQ.out c hq
  have Hq := Lib.hid hq
  clear hq
  obtain ⟨hcell, hfr⟩ := bcell hb
  have hs := hb.size
  (try simp only [World.size_alloc] at hs)
  have hz0 : w.heap.size < w1.heap.size := by omega
  have hz1 : w.heap.size + 1 < w1.heap.size := by omega
  have hz2 : w.heap.size + 1 + 1 < w1.heap.size := by omega
  have hbel := ((((Below.refl w.heap.size w).alloc (by go_size) _).alloc (by go_size) _).alloc (by go_size) _).trans (hb.mono (by go_size))
  go_upto_region 2 with (fail)
  generalize hW : ((((((((((w1.setCell ⟨w.heap.size + 1, 0, none⟩ (.int .i64 0)).setCell ⟨w.heap.size + 1, 1, none⟩ (.int .i64 0)).setCell ⟨w.heap.size + 1, 2, none⟩ (.int .i64 0)).setCell ⟨w.heap.size + 1, 3, none⟩ (.int .i64 0)).setCell ⟨w.heap.size + 1, 4, none⟩ (.int .i64 0)).setCell ⟨w.heap.size + 1, 5, none⟩ (.int .i64 0)).setCell ⟨w.heap.size + 1, 6, none⟩ (.int .i64 0)).setCell ⟨w.heap.size + 1, 7, none⟩ (.int .i64 0)).setCell ⟨w.heap.size + 1, 8, none⟩ (.bool false)).setCell ⟨w.heap.size + 1, 9, none⟩ (.int .i64 0)) = w2
  have r0 : w2.cell? ⟨w.heap.size, 0, none⟩ = some (.slice A n cap) := by rw [← hW]; simp [hcell, go_sem]
  have r1 : w2.cell? ⟨w.heap.size, 1, none⟩ = some (.int .i64 inc) := by rw [← hW]; simp [hcell, go_sem]
  have r2 : w2.cell? ⟨w.heap.size, 2, none⟩ = some (.int .i64 delay) := by rw [← hW]; simp [hcell, go_sem]
  have c0 : w2.cell? ⟨w.heap.size + 1, 0, none⟩ = some (.int .i64 0) := by rw [← hW]; simp [hcell, go_sem]
  have c1 : w2.cell? ⟨w.heap.size + 1, 1, none⟩ = some (.int .i64 0) := by rw [← hW]; simp [hcell, go_sem]
  have c2 : w2.cell? ⟨w.heap.size + 1, 2, none⟩ = some (.int .i64 0) := by rw [← hW]; simp [hcell, go_sem]
  have c3 : w2.cell? ⟨w.heap.size + 1, 3, none⟩ = some (.int .i64 0) := by rw [← hW]; simp [hcell, go_sem]
  have c4 : w2.cell? ⟨w.heap.size + 1, 4, none⟩ = some (.int .i64 0) := by rw [← hW]; simp [hcell, go_sem]
  have c5 : w2.cell? ⟨w.heap.size + 1, 5, none⟩ = some (.int .i64 0) := by rw [← hW]; simp [hcell, go_sem]
  have c6 : w2.cell? ⟨w.heap.size + 1, 6, none⟩ = some (.int .i64 0) := by rw [← hW]; simp [hcell, go_sem]
  have c7 : w2.cell? ⟨w.heap.size + 1, 7, none⟩ = some (.int .i64 0) := by rw [← hW]; simp [hcell, go_sem]
  have c8 : w2.cell? ⟨w.heap.size + 1, 8, none⟩ = some (.bool false) := by rw [← hW]; simp [hcell, go_sem]
  have c9 : w2.cell? ⟨w.heap.size + 1, 9, none⟩ = some (.int .i64 0) := by rw [← hW]; simp [hcell, go_sem]
  have g0 : w2.frozen? ⟨w.heap.size + 1, 0, none⟩ = false := by rw [← hW]; simp [hfr, go_sem]
  have g1 : w2.frozen? ⟨w.heap.size + 1, 1, none⟩ = false := by rw [← hW]; simp [hfr, go_sem]
  have g2 : w2.frozen? ⟨w.heap.size + 1, 2, none⟩ = false := by rw [← hW]; simp [hfr, go_sem]
  have g3 : w2.frozen? ⟨w.heap.size + 1, 3, none⟩ = false := by rw [← hW]; simp [hfr, go_sem]
  have g4 : w2.frozen? ⟨w.heap.size + 1, 4, none⟩ = false := by rw [← hW]; simp [hfr, go_sem]
  have g5 : w2.frozen? ⟨w.heap.size + 1, 5, none⟩ = false := by rw [← hW]; simp [hfr, go_sem]
  have g6 : w2.frozen? ⟨w.heap.size + 1, 6, none⟩ = false := by rw [← hW]; simp [hfr, go_sem]
  have g7 : w2.frozen? ⟨w.heap.size + 1, 7, none⟩ = false := by rw [← hW]; simp [hfr, go_sem]
  have g8 : w2.frozen? ⟨w.heap.size + 1, 8, none⟩ = false := by rw [← hW]; simp [hfr, go_sem]
  have g9 : w2.frozen? ⟨w.heap.size + 1, 9, none⟩ = false := by rw [← hW]; simp [hfr, go_sem]
  have z0 : w2.cell? ⟨w.heap.size + 1 + 1, 0, none⟩ = some (.int .i64 0) := by rw [← hW]; simp [hcell, go_sem]
  have z1 : w2.cell? ⟨w.heap.size + 1 + 1, 1, none⟩ = some (.int .i64 0) := by rw [← hW]; simp [hcell, go_sem]
  have z2 : w2.cell? ⟨w.heap.size + 1 + 1, 2, none⟩ = some (.int .i64 0) := by rw [← hW]; simp [hcell, go_sem]
  have z3 : w2.cell? ⟨w.heap.size + 1 + 1, 3, none⟩ = some (.int .i64 0) := by rw [← hW]; simp [hcell, go_sem]
  have z4 : w2.cell? ⟨w.heap.size + 1 + 1, 4, none⟩ = some (.int .i64 0) := by rw [← hW]; simp [hcell, go_sem]
  have z5 : w2.cell? ⟨w.heap.size + 1 + 1, 5, none⟩ = some (.int .i64 0) := by rw [← hW]; simp [hcell, go_sem]
  have z6 : w2.cell? ⟨w.heap.size + 1 + 1, 6, none⟩ = some (.int .i64 0) := by rw [← hW]; simp [hcell, go_sem]
  have z7 : w2.cell? ⟨w.heap.size + 1 + 1, 7, none⟩ = some (.int .i64 0) := by rw [← hW]; simp [hcell, go_sem]
  have z8 : w2.cell? ⟨w.heap.size + 1 + 1, 8, none⟩ = some (.bool false) := by rw [← hW]; simp [hcell, go_sem]
  have z9 : w2.cell? ⟨w.heap.size + 1 + 1, 9, none⟩ = some (.int .i64 0) := by rw [← hW]; simp [hcell, go_sem]
  have f0 : w2.frozen? ⟨w.heap.size + 1 + 1, 0, none⟩ = false := by rw [← hW]; simp [hfr, go_sem]
  have f1 : w2.frozen? ⟨w.heap.size + 1 + 1, 1, none⟩ = false := by rw [← hW]; simp [hfr, go_sem]
  have f2 : w2.frozen? ⟨w.heap.size + 1 + 1, 2, none⟩ = false := by rw [← hW]; simp [hfr, go_sem]
  have f3 : w2.frozen? ⟨w.heap.size + 1 + 1, 3, none⟩ = false := by rw [← hW]; simp [hfr, go_sem]
  have f4 : w2.frozen? ⟨w.heap.size + 1 + 1, 4, none⟩ = false := by rw [← hW]; simp [hfr, go_sem]
  have f5 : w2.frozen? ⟨w.heap.size + 1 + 1, 5, none⟩ = false := by rw [← hW]; simp [hfr, go_sem]
  have f6 : w2.frozen? ⟨w.heap.size + 1 + 1, 6, none⟩ = false := by rw [← hW]; simp [hfr, go_sem]
  have f7 : w2.frozen? ⟨w.heap.size + 1 + 1, 7, none⟩ = false := by rw [← hW]; simp [hfr, go_sem]
  have f8 : w2.frozen? ⟨w.heap.size + 1 + 1, 8, none⟩ = false := by rw [← hW]; simp [hfr, go_sem]
  have f9 : w2.frozen? ⟨w.heap.size + 1 + 1, 9, none⟩ = false := by rw [← hW]; simp [hfr, go_sem]
  have hs' : w2.heap.size = w1.heap.size := by rw [← hW]; simp
  have y0 : w.heap.size < w2.heap.size := by omega
  have y1 : w.heap.size + 1 < w2.heap.size := by omega
  have y2 : w.heap.size + 1 + 1 < w2.heap.size := by omega
  have hbel2 : Below w.heap.size w w2 := by rw [← hW]; go_grown
  clear hW hcell hfr hbel hs hs' hz0 hz1 hz2 hb
  go_wp2
  refine bodyPost_ret (v := .tuple #[.agg #[.int .i64 0, .int .i64 0, .int .i64 0, .int .i64 0, .int .i64 0, .int .i64 0, .int .i64 0, .int .i64 0, .bool false, .int .i64 0], .int .i64 c]) (by simp [results, Try.results10, go_sem, *]) rfl ?_
  refine ⟨c, Hq.out, rfl, ?_⟩
  go_grown

set_option maxHeartbeats 1000000 in
theorem Go_err (A : Option Addr) (n cap : Nat) (inc delay : Int) (ps : List (Int × Int)) (l0 l1 m0 m1 p0 p1 turn since fallen : Int) (st : Bool) (now : Int) (w : World) (hn : n ≤ 9223372036854775807) (hp : PerAt w w.heap.size A n ps) (Q : Int → Prop) (hQ : ∀ c, Q c → c ≠ 0)
    (hrd : ∀ W : World, PerAt W W.heap.size A n ps → Calls Try.prog 18 #[.agg #[.slice A n cap, .int .i64 inc, .int .i64 delay], .agg #[.int .i64 l0, .int .i64 l1, .int .i64 m0, .int .i64 m1, .int .i64 p0, .int .i64 p1, .int .i64 turn, .int .i64 since, .bool st, .int .i64 fallen], .int .i64 now, .bool true] W (fun e w' => ∃ c : Int, Q c ∧ e = .returned (.tuple #[.agg #[.int .i64 0, .int .i64 0, .int .i64 0, .int .i64 0, .int .i64 0, .int .i64 0, .int .i64 0, .int .i64 0, .bool false, .int .i64 0], .int .i64 c]) ∧ Below W.heap.size W w')) :
    Calls Try.prog 11 #[.agg #[.slice A n cap, .int .i64 inc, .int .i64 delay], .agg #[.int .i64 l0, .int .i64 l1, .int .i64 m0, .int .i64 m1, .int .i64 p0, .int .i64 p1, .int .i64 turn, .int .i64 since, .bool st, .int .i64 fallen], .int .i64 now] w (fun e w' => ∃ c : Int, Q c ∧ e = .returned (.tuple #[.agg #[.int .i64 0, .int .i64 0, .int .i64 0, .int .i64 0, .int .i64 0, .int .i64 0, .int .i64 0, .int .i64 0, .bool false, .int .i64 0], .int .i64 c]) ∧ Below w.heap.size w w') := by
  have HR := Lib.hid hrd
  have HQ := Lib.hid hQ
  clear hrd hQ
  have hP := Lib.hid (((hp.alloc (.cells #[.slice A n cap, .int .i64 inc, .int .i64 delay] 24)).alloc (.cells #[.int .i64 l0, .int .i64 l1, .int .i64 m0, .int .i64 m1, .int .i64 p0, .int .i64 p1, .int .i64 turn, .int .i64 since, .bool st, .int .i64 fallen] 27)).alloc (.cells #[.int .i64 0, .int .i64 0, .int .i64 0, .int .i64 0, .int .i64 0, .int .i64 0, .int .i64 0, .int .i64 0, .bool false, .int .i64 0] 27))
  clear hp
  go_enter Try.func11, Try.ntmps11
  go_wp2_with fail
  refine (HR.out _ hP.out).mono ?_
  rintro e w1 ⟨c, hq, rfl, hb⟩
  have h1 : (c != 0) = true := by simpa using HQ.out c hq
  have Hq := Lib.hid hq
  clear hq
  obtain ⟨hcell, hfr⟩ := bcell hb
  have hs := hb.size
  (try simp only [World.size_alloc] at hs)
  have hz0 : w.heap.size < w1.heap.size := by omega
  have hz1 : w.heap.size + 1 < w1.heap.size := by omega
  have hz2 : w.heap.size + 1 + 1 < w1.heap.size := by omega
  have hbel := ((((Below.refl w.heap.size w).alloc (by go_size) _).alloc (by go_size) _).alloc (by go_size) _).trans (hb.mono (by go_size))
  go_upto_region 2 with (fail)
  generalize hW : ((((((((((w1.setCell ⟨w.heap.size + 1, 0, none⟩ (.int .i64 0)).setCell ⟨w.heap.size + 1, 1, none⟩ (.int .i64 0)).setCell ⟨w.heap.size + 1, 2, none⟩ (.int .i64 0)).setCell ⟨w.heap.size + 1, 3, none⟩ (.int .i64 0)).setCell ⟨w.heap.size + 1, 4, none⟩ (.int .i64 0)).setCell ⟨w.heap.size + 1, 5, none⟩ (.int .i64 0)).setCell ⟨w.heap.size + 1, 6, none⟩ (.int .i64 0)).setCell ⟨w.heap.size + 1, 7, none⟩ (.int .i64 0)).setCell ⟨w.heap.size + 1, 8, none⟩ (.bool false)).setCell ⟨w.heap.size + 1, 9, none⟩ (.int .i64 0)) = w2
  have r0 : w2.cell? ⟨w.heap.size, 0, none⟩ = some (.slice A n cap) := by rw [← hW]; simp [hcell, go_sem]
  have r1 : w2.cell? ⟨w.heap.size, 1, none⟩ = some (.int .i64 inc) := by rw [← hW]; simp [hcell, go_sem]
  have r2 : w2.cell? ⟨w.heap.size, 2, none⟩ = some (.int .i64 delay) := by rw [← hW]; simp [hcell, go_sem]
  have c0 : w2.cell? ⟨w.heap.size + 1, 0, none⟩ = some (.int .i64 0) := by rw [← hW]; simp [hcell, go_sem]
  have c1 : w2.cell? ⟨w.heap.size + 1, 1, none⟩ = some (.int .i64 0) := by rw [← hW]; simp [hcell, go_sem]
  have c2 : w2.cell? ⟨w.heap.size + 1, 2, none⟩ = some (.int .i64 0) := by rw [← hW]; simp [hcell, go_sem]
  have c3 : w2.cell? ⟨w.heap.size + 1, 3, none⟩ = some (.int .i64 0) := by rw [← hW]; simp [hcell, go_sem]
  have c4 : w2.cell? ⟨w.heap.size + 1, 4, none⟩ = some (.int .i64 0) := by rw [← hW]; simp [hcell, go_sem]
  have c5 : w2.cell? ⟨w.heap.size + 1, 5, none⟩ = some (.int .i64 0) := by rw [← hW]; simp [hcell, go_sem]
  have c6 : w2.cell? ⟨w.heap.size + 1, 6, none⟩ = some (.int .i64 0) := by rw [← hW]; simp [hcell, go_sem]
  have c7 : w2.cell? ⟨w.heap.size + 1, 7, none⟩ = some (.int .i64 0) := by rw [← hW]; simp [hcell, go_sem]
  have c8 : w2.cell? ⟨w.heap.size + 1, 8, none⟩ = some (.bool false) := by rw [← hW]; simp [hcell, go_sem]
  have c9 : w2.cell? ⟨w.heap.size + 1, 9, none⟩ = some (.int .i64 0) := by rw [← hW]; simp [hcell, go_sem]
  have g0 : w2.frozen? ⟨w.heap.size + 1, 0, none⟩ = false := by rw [← hW]; simp [hfr, go_sem]
  have g1 : w2.frozen? ⟨w.heap.size + 1, 1, none⟩ = false := by rw [← hW]; simp [hfr, go_sem]
  have g2 : w2.frozen? ⟨w.heap.size + 1, 2, none⟩ = false := by rw [← hW]; simp [hfr, go_sem]
  have g3 : w2.frozen? ⟨w.heap.size + 1, 3, none⟩ = false := by rw [← hW]; simp [hfr, go_sem]
  have g4 : w2.frozen? ⟨w.heap.size + 1, 4, none⟩ = false := by rw [← hW]; simp [hfr, go_sem]
  have g5 : w2.frozen? ⟨w.heap.size + 1, 5, none⟩ = false := by rw [← hW]; simp [hfr, go_sem]
  have g6 : w2.frozen? ⟨w.heap.size + 1, 6, none⟩ = false := by rw [← hW]; simp [hfr, go_sem]
  have g7 : w2.frozen? ⟨w.heap.size + 1, 7, none⟩ = false := by rw [← hW]; simp [hfr, go_sem]
  have g8 : w2.frozen? ⟨w.heap.size + 1, 8, none⟩ = false := by rw [← hW]; simp [hfr, go_sem]
  have g9 : w2.frozen? ⟨w.heap.size + 1, 9, none⟩ = false := by rw [← hW]; simp [hfr, go_sem]
  have z0 : w2.cell? ⟨w.heap.size + 1 + 1, 0, none⟩ = some (.int .i64 0) := by rw [← hW]; simp [hcell, go_sem]
  have z1 : w2.cell? ⟨w.heap.size + 1 + 1, 1, none⟩ = some (.int .i64 0) := by rw [← hW]; simp [hcell, go_sem]
  have z2 : w2.cell? ⟨w.heap.size + 1 + 1, 2, none⟩ = some (.int .i64 0) := by rw [← hW]; simp [hcell, go_sem]
  have z3 : w2.cell? ⟨w.heap.size + 1 + 1, 3, none⟩ = some (.int .i64 0) := by rw [← hW]; simp [hcell, go_sem]
  have z4 : w2.cell? ⟨w.heap.size + 1 + 1, 4, none⟩ = some (.int .i64 0) := by rw [← hW]; simp [hcell, go_sem]
  have z5 : w2.cell? ⟨w.heap.size + 1 + 1, 5, none⟩ = some (.int .i64 0) := by rw [← hW]; simp [hcell, go_sem]
  have z6 : w2.cell? ⟨w.heap.size + 1 + 1, 6, none⟩ = some (.int .i64 0) := by rw [← hW]; simp [hcell, go_sem]
  have z7 : w2.cell? ⟨w.heap.size + 1 + 1, 7, none⟩ = some (.int .i64 0) := by rw [← hW]; simp [hcell, go_sem]
  have z8 : w2.cell? ⟨w.heap.size + 1 + 1, 8, none⟩ = some (.bool false) := by rw [← hW]; simp [hcell, go_sem]
  have z9 : w2.cell? ⟨w.heap.size + 1 + 1, 9, none⟩ = some (.int .i64 0) := by rw [← hW]; simp [hcell, go_sem]
  have f0 : w2.frozen? ⟨w.heap.size + 1 + 1, 0, none⟩ = false := by rw [← hW]; simp [hfr, go_sem]
  have f1 : w2.frozen? ⟨w.heap.size + 1 + 1, 1, none⟩ = false := by rw [← hW]; simp [hfr, go_sem]
  have f2 : w2.frozen? ⟨w.heap.size + 1 + 1, 2, none⟩ = false := by rw [← hW]; simp [hfr, go_sem]
  have f3 : w2.frozen? ⟨w.heap.size + 1 + 1, 3, none⟩ = false := by rw [← hW]; simp [hfr, go_sem]
  have f4 : w2.frozen? ⟨w.heap.size + 1 + 1, 4, none⟩ = false := by rw [← hW]; simp [hfr, go_sem]
  have f5 : w2.frozen? ⟨w.heap.size + 1 + 1, 5, none⟩ = false := by rw [← hW]; simp [hfr, go_sem]
  have f6 : w2.frozen? ⟨w.heap.size + 1 + 1, 6, none⟩ = false := by rw [← hW]; simp [hfr, go_sem]
  have f7 : w2.frozen? ⟨w.heap.size + 1 + 1, 7, none⟩ = false := by rw [← hW]; simp [hfr, go_sem]
  have f8 : w2.frozen? ⟨w.heap.size + 1 + 1, 8, none⟩ = false := by rw [← hW]; simp [hfr, go_sem]
  have f9 : w2.frozen? ⟨w.heap.size + 1 + 1, 9, none⟩ = false := by rw [← hW]; simp [hfr, go_sem]
  have hs' : w2.heap.size = w1.heap.size := by rw [← hW]; simp
  have y0 : w.heap.size < w2.heap.size := by omega
  have y1 : w.heap.size + 1 < w2.heap.size := by omega
  have y2 : w.heap.size + 1 + 1 < w2.heap.size := by omega
  have hbel2 : Below w.heap.size w w2 := by rw [← hW]; go_grown
  clear hW hcell hfr hbel hs hs' hz0 hz1 hz2 hb
  go_wp2
  refine bodyPost_ret (v := .tuple #[.agg #[.int .i64 0, .int .i64 0, .int .i64 0, .int .i64 0, .int .i64 0, .int .i64 0, .int .i64 0, .int .i64 0, .bool false, .int .i64 0], .int .i64 c]) (by simp [results, Try.results11, go_sem, *]) rfl ?_
  refine ⟨c, Hq.out, rfl, ?_⟩
  go_grown

set_option maxHeartbeats 1000000 in
theorem Go_ok_0 (A : Option Addr) (n cap : Nat) (inc delay : Int) (ps : List (Int × Int)) (l0 l1 m0 m1 p0 p1 since fallen : Int) (now : Int) (w : World) (hn : n ≤ 9223372036854775807) (hp : PerAt w w.heap.size A n ps) (hr : RuleOk n inc delay ps) (hk : ClkOk n l0 l1 m0 m1 p0 p1 0 since fallen) (e0 : witB now since 100000000 = true) (hf : fallen < 0) (hu : usedZ true delay since now ≤ l0) :
    Calls Try.prog 11 #[.agg #[.slice A n cap, .int .i64 inc, .int .i64 delay], .agg #[.int .i64 l0, .int .i64 l1, .int .i64 m0, .int .i64 m1, .int .i64 p0, .int .i64 p1, .int .i64 0, .int .i64 since, .bool true, .int .i64 fallen], .int .i64 now] w (fun e w' => e = .returned (.tuple #[.agg #[.int .i64 l0, .int .i64 l1, .int .i64 m0, .int .i64 m1, .int .i64 p0, .int .i64 p1, .int .i64 0, .int .i64 now, .bool false, .int .i64 fallen], .int .i64 0]) ∧ Below w.heap.size w w') := by
  have H := Lib.hid hr
  have HC := Lib.hid hk
  clear hr hk
  have hP := Lib.hid (((hp.alloc (.cells #[.slice A n cap, .int .i64 inc, .int .i64 delay] 24)).alloc (.cells #[.int .i64 l0, .int .i64 l1, .int .i64 m0, .int .i64 m1, .int .i64 p0, .int .i64 p1, .int .i64 0, .int .i64 since, .bool true, .int .i64 fallen] 27)).alloc (.cells #[.int .i64 0, .int .i64 0, .int .i64 0, .int .i64 0, .int .i64 0, .int .i64 0, .int .i64 0, .int .i64 0, .bool false, .int .i64 0] 27))
  clear hp
  go_enter Try.func11, Try.ntmps11
  go_wp2_with fail
  refine (ready_ok_0_true A n cap inc delay ps l0 l1 m0 m1 p0 p1 since fallen now _ hn hP.out H.out HC.out e0 hf hu).mono ?_
  rintro e w1 ⟨rfl, hb⟩
  obtain ⟨hcell, hfr⟩ := bcell hb
  have hs := hb.size
  (try simp only [World.size_alloc] at hs)
  have hz0 : w.heap.size < w1.heap.size := by omega
  have hz1 : w.heap.size + 1 < w1.heap.size := by omega
  have hz2 : w.heap.size + 1 + 1 < w1.heap.size := by omega
  have hbel := ((((Below.refl w.heap.size w).alloc (by go_size) _).alloc (by go_size) _).alloc (by go_size) _).trans (hb.mono (by go_size))
  go_upto_region 2 with (fail)
  generalize hW : ((((((((((w1.setCell ⟨w.heap.size + 1, 0, none⟩ (.int .i64 l0)).setCell ⟨w.heap.size + 1, 1, none⟩ (.int .i64 l1)).setCell ⟨w.heap.size + 1, 2, none⟩ (.int .i64 m0)).setCell ⟨w.heap.size + 1, 3, none⟩ (.int .i64 m1)).setCell ⟨w.heap.size + 1, 4, none⟩ (.int .i64 p0)).setCell ⟨w.heap.size + 1, 5, none⟩ (.int .i64 p1)).setCell ⟨w.heap.size + 1, 6, none⟩ (.int .i64 0)).setCell ⟨w.heap.size + 1, 7, none⟩ (.int .i64 since)).setCell ⟨w.heap.size + 1, 8, none⟩ (.bool true)).setCell ⟨w.heap.size + 1, 9, none⟩ (.int .i64 fallen)) = w2
  have r0 : w2.cell? ⟨w.heap.size, 0, none⟩ = some (.slice A n cap) := by rw [← hW]; simp [hcell, go_sem]
  have r1 : w2.cell? ⟨w.heap.size, 1, none⟩ = some (.int .i64 inc) := by rw [← hW]; simp [hcell, go_sem]
  have r2 : w2.cell? ⟨w.heap.size, 2, none⟩ = some (.int .i64 delay) := by rw [← hW]; simp [hcell, go_sem]
  have c0 : w2.cell? ⟨w.heap.size + 1, 0, none⟩ = some (.int .i64 l0) := by rw [← hW]; simp [hcell, go_sem]
  have c1 : w2.cell? ⟨w.heap.size + 1, 1, none⟩ = some (.int .i64 l1) := by rw [← hW]; simp [hcell, go_sem]
  have c2 : w2.cell? ⟨w.heap.size + 1, 2, none⟩ = some (.int .i64 m0) := by rw [← hW]; simp [hcell, go_sem]
  have c3 : w2.cell? ⟨w.heap.size + 1, 3, none⟩ = some (.int .i64 m1) := by rw [← hW]; simp [hcell, go_sem]
  have c4 : w2.cell? ⟨w.heap.size + 1, 4, none⟩ = some (.int .i64 p0) := by rw [← hW]; simp [hcell, go_sem]
  have c5 : w2.cell? ⟨w.heap.size + 1, 5, none⟩ = some (.int .i64 p1) := by rw [← hW]; simp [hcell, go_sem]
  have c6 : w2.cell? ⟨w.heap.size + 1, 6, none⟩ = some (.int .i64 0) := by rw [← hW]; simp [hcell, go_sem]
  have c7 : w2.cell? ⟨w.heap.size + 1, 7, none⟩ = some (.int .i64 since) := by rw [← hW]; simp [hcell, go_sem]
  have c8 : w2.cell? ⟨w.heap.size + 1, 8, none⟩ = some (.bool true) := by rw [← hW]; simp [hcell, go_sem]
  have c9 : w2.cell? ⟨w.heap.size + 1, 9, none⟩ = some (.int .i64 fallen) := by rw [← hW]; simp [hcell, go_sem]
  have g0 : w2.frozen? ⟨w.heap.size + 1, 0, none⟩ = false := by rw [← hW]; simp [hfr, go_sem]
  have g1 : w2.frozen? ⟨w.heap.size + 1, 1, none⟩ = false := by rw [← hW]; simp [hfr, go_sem]
  have g2 : w2.frozen? ⟨w.heap.size + 1, 2, none⟩ = false := by rw [← hW]; simp [hfr, go_sem]
  have g3 : w2.frozen? ⟨w.heap.size + 1, 3, none⟩ = false := by rw [← hW]; simp [hfr, go_sem]
  have g4 : w2.frozen? ⟨w.heap.size + 1, 4, none⟩ = false := by rw [← hW]; simp [hfr, go_sem]
  have g5 : w2.frozen? ⟨w.heap.size + 1, 5, none⟩ = false := by rw [← hW]; simp [hfr, go_sem]
  have g6 : w2.frozen? ⟨w.heap.size + 1, 6, none⟩ = false := by rw [← hW]; simp [hfr, go_sem]
  have g7 : w2.frozen? ⟨w.heap.size + 1, 7, none⟩ = false := by rw [← hW]; simp [hfr, go_sem]
  have g8 : w2.frozen? ⟨w.heap.size + 1, 8, none⟩ = false := by rw [← hW]; simp [hfr, go_sem]
  have g9 : w2.frozen? ⟨w.heap.size + 1, 9, none⟩ = false := by rw [← hW]; simp [hfr, go_sem]
  have z0 : w2.cell? ⟨w.heap.size + 1 + 1, 0, none⟩ = some (.int .i64 0) := by rw [← hW]; simp [hcell, go_sem]
  have z1 : w2.cell? ⟨w.heap.size + 1 + 1, 1, none⟩ = some (.int .i64 0) := by rw [← hW]; simp [hcell, go_sem]
  have z2 : w2.cell? ⟨w.heap.size + 1 + 1, 2, none⟩ = some (.int .i64 0) := by rw [← hW]; simp [hcell, go_sem]
  have z3 : w2.cell? ⟨w.heap.size + 1 + 1, 3, none⟩ = some (.int .i64 0) := by rw [← hW]; simp [hcell, go_sem]
  have z4 : w2.cell? ⟨w.heap.size + 1 + 1, 4, none⟩ = some (.int .i64 0) := by rw [← hW]; simp [hcell, go_sem]
  have z5 : w2.cell? ⟨w.heap.size + 1 + 1, 5, none⟩ = some (.int .i64 0) := by rw [← hW]; simp [hcell, go_sem]
  have z6 : w2.cell? ⟨w.heap.size + 1 + 1, 6, none⟩ = some (.int .i64 0) := by rw [← hW]; simp [hcell, go_sem]
  have z7 : w2.cell? ⟨w.heap.size + 1 + 1, 7, none⟩ = some (.int .i64 0) := by rw [← hW]; simp [hcell, go_sem]
  have z8 : w2.cell? ⟨w.heap.size + 1 + 1, 8, none⟩ = some (.bool false) := by rw [← hW]; simp [hcell, go_sem]
  have z9 : w2.cell? ⟨w.heap.size + 1 + 1, 9, none⟩ = some (.int .i64 0) := by rw [← hW]; simp [hcell, go_sem]
  have f0 : w2.frozen? ⟨w.heap.size + 1 + 1, 0, none⟩ = false := by rw [← hW]; simp [hfr, go_sem]
  have f1 : w2.frozen? ⟨w.heap.size + 1 + 1, 1, none⟩ = false := by rw [← hW]; simp [hfr, go_sem]
  have f2 : w2.frozen? ⟨w.heap.size + 1 + 1, 2, none⟩ = false := by rw [← hW]; simp [hfr, go_sem]
  have f3 : w2.frozen? ⟨w.heap.size + 1 + 1, 3, none⟩ = false := by rw [← hW]; simp [hfr, go_sem]
  have f4 : w2.frozen? ⟨w.heap.size + 1 + 1, 4, none⟩ = false := by rw [← hW]; simp [hfr, go_sem]
  have f5 : w2.frozen? ⟨w.heap.size + 1 + 1, 5, none⟩ = false := by rw [← hW]; simp [hfr, go_sem]
  have f6 : w2.frozen? ⟨w.heap.size + 1 + 1, 6, none⟩ = false := by rw [← hW]; simp [hfr, go_sem]
  have f7 : w2.frozen? ⟨w.heap.size + 1 + 1, 7, none⟩ = false := by rw [← hW]; simp [hfr, go_sem]
  have f8 : w2.frozen? ⟨w.heap.size + 1 + 1, 8, none⟩ = false := by rw [← hW]; simp [hfr, go_sem]
  have f9 : w2.frozen? ⟨w.heap.size + 1 + 1, 9, none⟩ = false := by rw [← hW]; simp [hfr, go_sem]
  have hs' : w2.heap.size = w1.heap.size := by rw [← hW]; simp
  have y0 : w.heap.size < w2.heap.size := by omega
  have y1 : w.heap.size + 1 < w2.heap.size := by omega
  have y2 : w.heap.size + 1 + 1 < w2.heap.size := by omega
  have hbel2 : Below w.heap.size w w2 := by rw [← hW]; go_grown
  clear hW hcell hfr hbel hs hs' hz0 hz1 hz2 hb
  go_wp2
  refine bodyPost_ret (v := .tuple #[.agg #[.int .i64 l0, .int .i64 l1, .int .i64 m0, .int .i64 m1, .int .i64 p0, .int .i64 p1, .int .i64 0, .int .i64 now, .bool false, .int .i64 fallen], .int .i64 0]) (by simp [results, Try.results11, go_sem, *]) rfl ?_
  refine ⟨rfl, ?_⟩
  go_grown

set_option maxHeartbeats 1000000 in
theorem Go_ok_1 (A : Option Addr) (n cap : Nat) (inc delay : Int) (ps : List (Int × Int)) (l0 l1 m0 m1 p0 p1 since fallen : Int) (now : Int) (w : World) (hn : n ≤ 9223372036854775807) (hp : PerAt w w.heap.size A n ps) (hr : RuleOk n inc delay ps) (hk : ClkOk n l0 l1 m0 m1 p0 p1 1 since fallen) (e0 : witB now since 100000000 = true) (hf : fallen < 0) (hu : usedZ true delay since now ≤ l1) :
    Calls Try.prog 11 #[.agg #[.slice A n cap, .int .i64 inc, .int .i64 delay], .agg #[.int .i64 l0, .int .i64 l1, .int .i64 m0, .int .i64 m1, .int .i64 p0, .int .i64 p1, .int .i64 1, .int .i64 since, .bool true, .int .i64 fallen], .int .i64 now] w (fun e w' => e = .returned (.tuple #[.agg #[.int .i64 l0, .int .i64 l1, .int .i64 m0, .int .i64 m1, .int .i64 p0, .int .i64 p1, .int .i64 1, .int .i64 now, .bool false, .int .i64 fallen], .int .i64 0]) ∧ Below w.heap.size w w') := by
  have H := Lib.hid hr
  have HC := Lib.hid hk
  clear hr hk
  have hP := Lib.hid (((hp.alloc (.cells #[.slice A n cap, .int .i64 inc, .int .i64 delay] 24)).alloc (.cells #[.int .i64 l0, .int .i64 l1, .int .i64 m0, .int .i64 m1, .int .i64 p0, .int .i64 p1, .int .i64 1, .int .i64 since, .bool true, .int .i64 fallen] 27)).alloc (.cells #[.int .i64 0, .int .i64 0, .int .i64 0, .int .i64 0, .int .i64 0, .int .i64 0, .int .i64 0, .int .i64 0, .bool false, .int .i64 0] 27))
  clear hp
  go_enter Try.func11, Try.ntmps11
  go_wp2_with fail
  refine (ready_ok_1_true A n cap inc delay ps l0 l1 m0 m1 p0 p1 since fallen now _ hn hP.out H.out HC.out e0 hf hu).mono ?_
  rintro e w1 ⟨rfl, hb⟩
  obtain ⟨hcell, hfr⟩ := bcell hb
  have hs := hb.size
  (try simp only [World.size_alloc] at hs)
  have hz0 : w.heap.size < w1.heap.size := by omega
  have hz1 : w.heap.size + 1 < w1.heap.size := by omega
  have hz2 : w.heap.size + 1 + 1 < w1.heap.size := by omega
  have hbel := ((((Below.refl w.heap.size w).alloc (by go_size) _).alloc (by go_size) _).alloc (by go_size) _).trans (hb.mono (by go_size))
  go_upto_region 2 with (fail)
  generalize hW : ((((((((((w1.setCell ⟨w.heap.size + 1, 0, none⟩ (.int .i64 l0)).setCell ⟨w.heap.size + 1, 1, none⟩ (.int .i64 l1)).setCell ⟨w.heap.size + 1, 2, none⟩ (.int .i64 m0)).setCell ⟨w.heap.size + 1, 3, none⟩ (.int .i64 m1)).setCell ⟨w.heap.size + 1, 4, none⟩ (.int .i64 p0)).setCell ⟨w.heap.size + 1, 5, none⟩ (.int .i64 p1)).setCell ⟨w.heap.size + 1, 6, none⟩ (.int .i64 1)).setCell ⟨w.heap.size + 1, 7, none⟩ (.int .i64 since)).setCell ⟨w.heap.size + 1, 8, none⟩ (.bool true)).setCell ⟨w.heap.size + 1, 9, none⟩ (.int .i64 fallen)) = w2
  have r0 : w2.cell? ⟨w.heap.size, 0, none⟩ = some (.slice A n cap) := by rw [← hW]; simp [hcell, go_sem]
  have r1 : w2.cell? ⟨w.heap.size, 1, none⟩ = some (.int .i64 inc) := by rw [← hW]; simp [hcell, go_sem]
  have r2 : w2.cell? ⟨w.heap.size, 2, none⟩ = some (.int .i64 delay) := by rw [← hW]; simp [hcell, go_sem]
  have c0 : w2.cell? ⟨w.heap.size + 1, 0, none⟩ = some (.int .i64 l0) := by rw [← hW]; simp [hcell, go_sem]
  have c1 : w2.cell? ⟨w.heap.size + 1, 1, none⟩ = some (.int .i64 l1) := by rw [← hW]; simp [hcell, go_sem]
  have c2 : w2.cell? ⟨w.heap.size + 1, 2, none⟩ = some (.int .i64 m0) := by rw [← hW]; simp [hcell, go_sem]
  have c3 : w2.cell? ⟨w.heap.size + 1, 3, none⟩ = some (.int .i64 m1) := by rw [← hW]; simp [hcell, go_sem]
  have c4 : w2.cell? ⟨w.heap.size + 1, 4, none⟩ = some (.int .i64 p0) := by rw [← hW]; simp [hcell, go_sem]
  have c5 : w2.cell? ⟨w.heap.size + 1, 5, none⟩ = some (.int .i64 p1) := by rw [← hW]; simp [hcell, go_sem]
  have c6 : w2.cell? ⟨w.heap.size + 1, 6, none⟩ = some (.int .i64 1) := by rw [← hW]; simp [hcell, go_sem]
  have c7 : w2.cell? ⟨w.heap.size + 1, 7, none⟩ = some (.int .i64 since) := by rw [← hW]; simp [hcell, go_sem]
  have c8 : w2.cell? ⟨w.heap.size + 1, 8, none⟩ = some (.bool true) := by rw [← hW]; simp [hcell, go_sem]
  have c9 : w2.cell? ⟨w.heap.size + 1, 9, none⟩ = some (.int .i64 fallen) := by rw [← hW]; simp [hcell, go_sem]
  have g0 : w2.frozen? ⟨w.heap.size + 1, 0, none⟩ = false := by rw [← hW]; simp [hfr, go_sem]
  have g1 : w2.frozen? ⟨w.heap.size + 1, 1, none⟩ = false := by rw [← hW]; simp [hfr, go_sem]
  have g2 : w2.frozen? ⟨w.heap.size + 1, 2, none⟩ = false := by rw [← hW]; simp [hfr, go_sem]
  have g3 : w2.frozen? ⟨w.heap.size + 1, 3, none⟩ = false := by rw [← hW]; simp [hfr, go_sem]
  have g4 : w2.frozen? ⟨w.heap.size + 1, 4, none⟩ = false := by rw [← hW]; simp [hfr, go_sem]
  have g5 : w2.frozen? ⟨w.heap.size + 1, 5, none⟩ = false := by rw [← hW]; simp [hfr, go_sem]
  have g6 : w2.frozen? ⟨w.heap.size + 1, 6, none⟩ = false := by rw [← hW]; simp [hfr, go_sem]
  have g7 : w2.frozen? ⟨w.heap.size + 1, 7, none⟩ = false := by rw [← hW]; simp [hfr, go_sem]
  have g8 : w2.frozen? ⟨w.heap.size + 1, 8, none⟩ = false := by rw [← hW]; simp [hfr, go_sem]
  have g9 : w2.frozen? ⟨w.heap.size + 1, 9, none⟩ = false := by rw [← hW]; simp [hfr, go_sem]
  have z0 : w2.cell? ⟨w.heap.size + 1 + 1, 0, none⟩ = some (.int .i64 0) := by rw [← hW]; simp [hcell, go_sem]
  have z1 : w2.cell? ⟨w.heap.size + 1 + 1, 1, none⟩ = some (.int .i64 0) := by rw [← hW]; simp [hcell, go_sem]
  have z2 : w2.cell? ⟨w.heap.size + 1 + 1, 2, none⟩ = some (.int .i64 0) := by rw [← hW]; simp [hcell, go_sem]
  have z3 : w2.cell? ⟨w.heap.size + 1 + 1, 3, none⟩ = some (.int .i64 0) := by rw [← hW]; simp [hcell, go_sem]
  have z4 : w2.cell? ⟨w.heap.size + 1 + 1, 4, none⟩ = some (.int .i64 0) := by rw [← hW]; simp [hcell, go_sem]
  have z5 : w2.cell? ⟨w.heap.size + 1 + 1, 5, none⟩ = some (.int .i64 0) := by rw [← hW]; simp [hcell, go_sem]
  have z6 : w2.cell? ⟨w.heap.size + 1 + 1, 6, none⟩ = some (.int .i64 0) := by rw [← hW]; simp [hcell, go_sem]
  have z7 : w2.cell? ⟨w.heap.size + 1 + 1, 7, none⟩ = some (.int .i64 0) := by rw [← hW]; simp [hcell, go_sem]
  have z8 : w2.cell? ⟨w.heap.size + 1 + 1, 8, none⟩ = some (.bool false) := by rw [← hW]; simp [hcell, go_sem]
  have z9 : w2.cell? ⟨w.heap.size + 1 + 1, 9, none⟩ = some (.int .i64 0) := by rw [← hW]; simp [hcell, go_sem]
  have f0 : w2.frozen? ⟨w.heap.size + 1 + 1, 0, none⟩ = false := by rw [← hW]; simp [hfr, go_sem]
  have f1 : w2.frozen? ⟨w.heap.size + 1 + 1, 1, none⟩ = false := by rw [← hW]; simp [hfr, go_sem]
  have f2 : w2.frozen? ⟨w.heap.size + 1 + 1, 2, none⟩ = false := by rw [← hW]; simp [hfr, go_sem]
  have f3 : w2.frozen? ⟨w.heap.size + 1 + 1, 3, none⟩ = false := by rw [← hW]; simp [hfr, go_sem]
  have f4 : w2.frozen? ⟨w.heap.size + 1 + 1, 4, none⟩ = false := by rw [← hW]; simp [hfr, go_sem]
  have f5 : w2.frozen? ⟨w.heap.size + 1 + 1, 5, none⟩ = false := by rw [← hW]; simp [hfr, go_sem]
  have f6 : w2.frozen? ⟨w.heap.size + 1 + 1, 6, none⟩ = false := by rw [← hW]; simp [hfr, go_sem]
  have f7 : w2.frozen? ⟨w.heap.size + 1 + 1, 7, none⟩ = false := by rw [← hW]; simp [hfr, go_sem]
  have f8 : w2.frozen? ⟨w.heap.size + 1 + 1, 8, none⟩ = false := by rw [← hW]; simp [hfr, go_sem]
  have f9 : w2.frozen? ⟨w.heap.size + 1 + 1, 9, none⟩ = false := by rw [← hW]; simp [hfr, go_sem]
  have hs' : w2.heap.size = w1.heap.size := by rw [← hW]; simp
  have y0 : w.heap.size < w2.heap.size := by omega
  have y1 : w.heap.size + 1 < w2.heap.size := by omega
  have y2 : w.heap.size + 1 + 1 < w2.heap.size := by omega
  have hbel2 : Below w.heap.size w w2 := by rw [← hW]; go_grown
  clear hW hcell hfr hbel hs hs' hz0 hz1 hz2 hb
  go_wp2
  refine bodyPost_ret (v := .tuple #[.agg #[.int .i64 l0, .int .i64 l1, .int .i64 m0, .int .i64 m1, .int .i64 p0, .int .i64 p1, .int .i64 1, .int .i64 now, .bool false, .int .i64 fallen], .int .i64 0]) (by simp [results, Try.results11, go_sem, *]) rfl ?_
  refine ⟨rfl, ?_⟩
  go_grown
end Go.Proofs.Ytpcllegmdioafaa
