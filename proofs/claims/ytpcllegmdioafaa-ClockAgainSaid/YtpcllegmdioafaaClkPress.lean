/- The contracts of clock.Stop and clock.Fall. -/
import Derived.Test.YtpcllegmdioafaaClkReady
import Derived.Deep.RegionWith
import Derived.Deep.DeepCutAuto
namespace Go.Proofs.Ytpcllegmdioafaa
open Go.ChangeShapes Go.WideShapes Go.ChangeAt Go.RowKit
set_option linter.unusedVariables false

set_option maxHeartbeats 8000000 in
theorem Stop_ok_0 (A : Option Addr) (n cap : Nat) (inc delay : Int) (ps : List (Int × Int)) (l0 l1 m0 m1 p0 p1 since fallen : Int) (now : Int) (w : World) (hn : n ≤ 9223372036854775807) (hp : PerAt w w.heap.size A n ps) (hr : RuleOk n inc delay ps) (hk : ClkOk n l0 l1 m0 m1 p0 p1 0 since fallen) (e0 : witB now since 100000000 = true) (hf : fallen < 0) (hu : usedZ false delay since now ≤ l0) :
    Calls Try.prog 10 #[.agg #[.slice A n cap, .int .i64 inc, .int .i64 delay], .agg #[.int .i64 l0, .int .i64 l1, .int .i64 m0, .int .i64 m1, .int .i64 p0, .int .i64 p1, .int .i64 0, .int .i64 since, .bool false, .int .i64 fallen], .int .i64 now] w (fun e w' => e = .returned (.tuple #[.agg #[.int .i64 (l0 - usedZ false delay since now), .int .i64 l1, .int .i64 m0, .int .i64 m1, .int .i64 p0, .int .i64 p1, .int .i64 0, .int .i64 now, .bool true, .int .i64 fallen], .int .i64 0]) ∧ Below w.heap.size w w') := by
  have hnow := witB_iff.1 e0
  have hsn := hk.2.2.1
  have hdl := hr.2.2.1
  have hub := usedZ_b false delay since now (by omega) (by omega) (by omega) (by omega)
  have hlb0 : 0 ≤ l0 ∧ l0 ≤ 100000000000 := hk.2.2.2.2.2.1
  have H := Lib.hid hr
  have HC := Lib.hid hk
  clear hr hk
  have hP := Lib.hid (((hp.alloc (.cells #[.slice A n cap, .int .i64 inc, .int .i64 delay] 24)).alloc (.cells #[.int .i64 l0, .int .i64 l1, .int .i64 m0, .int .i64 m1, .int .i64 p0, .int .i64 p1, .int .i64 0, .int .i64 since, .bool false, .int .i64 fallen] 27)).alloc (.cells #[.int .i64 0, .int .i64 0, .int .i64 0, .int .i64 0, .int .i64 0, .int .i64 0, .int .i64 0, .int .i64 0, .bool false, .int .i64 0] 27))
  clear hp
  go_enter Try.func10, Try.ntmps10
  go_wp2_with fail
  refine (ready_ok_0_false A n cap inc delay ps l0 l1 m0 m1 p0 p1 since fallen now _ hn hP.out H.out HC.out e0 hf hu).mono ?_
  rintro e w1 ⟨rfl, hb⟩
  obtain ⟨hcell, hfr⟩ := bcell hb
  have hs := hb.size
  (try simp only [World.size_alloc] at hs)
  have hz0 : w.heap.size < w1.heap.size := by omega
  have hz1 : w.heap.size + 1 < w1.heap.size := by omega
  have hz2 : w.heap.size + 1 + 1 < w1.heap.size := by omega
  have hbel := ((((Below.refl w.heap.size w).alloc (by go_size) _).alloc (by go_size) _).alloc (by go_size) _).trans (hb.mono (by go_size))
  go_upto_region 4 with (fail)
  generalize hW : ((((((((((w1.setCell ⟨w.heap.size + 1, 0, none⟩ (.int .i64 l0)).setCell ⟨w.heap.size + 1, 1, none⟩ (.int .i64 l1)).setCell ⟨w.heap.size + 1, 2, none⟩ (.int .i64 m0)).setCell ⟨w.heap.size + 1, 3, none⟩ (.int .i64 m1)).setCell ⟨w.heap.size + 1, 4, none⟩ (.int .i64 p0)).setCell ⟨w.heap.size + 1, 5, none⟩ (.int .i64 p1)).setCell ⟨w.heap.size + 1, 6, none⟩ (.int .i64 0)).setCell ⟨w.heap.size + 1, 7, none⟩ (.int .i64 since)).setCell ⟨w.heap.size + 1, 8, none⟩ (.bool false)).setCell ⟨w.heap.size + 1, 9, none⟩ (.int .i64 fallen)) = w2
  have r0 : w2.cell? ⟨w.heap.size, 0, none⟩ = some (.slice A n cap) := by rw [← hW]; simp [hcell, go_sem]
  have r1 : w2.cell? ⟨w.heap.size, 1, none⟩ = some (.int .i64 inc) := by rw [← hW]; simp [hcell, go_sem]
  have r2 : w2.cell? ⟨w.heap.size, 2, none⟩ = some (.int .i64 delay) := by rw [← hW]; simp [hcell, go_sem]
  have c0 : w2.cell? ⟨w.heap.size + 1, 0, none⟩ = some (.int .i64 l0) := by rw [← hW]; simp [hcell, go_sem]
  have c1 : w2.cell? ⟨w.heap.size + 1, 1, none⟩ = some (.int .i64 l1) := by rw [← hW]; simp [hcell, go_sem]
  have c2 : w2.cell? ⟨w.heap.size + 1, 2, none⟩ = some (.int .i64 m0) := by rw [← hW]; simp [hcell, go_sem]
  have c3 : w2.cell? ⟨w.heap.size + 1, 3, none⟩ = some (.int .i64 m1) := by rw [← hW]; simp [hcell, go_sem]
  have c4 : w2.cell? ⟨w.heap.size + 1, 4, none⟩ = some (.int .i64 p0) := by rw [← hW]; simp [hcell, go_sem]
  have c5 : w2.cell? ⟨w.heap.size + 1, 5, none⟩ = some (.int .i64 p1) := by rw [← hW]; simp [hcell, go_sem]
  have c6 : w2.cell? ⟨w.heap.size + 1, 6, none⟩ = some (.int .i64 0) := by rw [← hW]; simp [hcell, go_sem]
  have c7 : w2.cell? ⟨w.heap.size + 1, 7, none⟩ = some (.int .i64 since) := by rw [← hW]; simp [hcell, go_sem]
  have c8 : w2.cell? ⟨w.heap.size + 1, 8, none⟩ = some (.bool false) := by rw [← hW]; simp [hcell, go_sem]
  have c9 : w2.cell? ⟨w.heap.size + 1, 9, none⟩ = some (.int .i64 fallen) := by rw [← hW]; simp [hcell, go_sem]
  have g0 : w2.frozen? ⟨w.heap.size + 1, 0, none⟩ = false := by rw [← hW]; simp [hfr, go_sem]
  have g1 : w2.frozen? ⟨w.heap.size + 1, 1, none⟩ = false := by rw [← hW]; simp [hfr, go_sem]
  have g2 : w2.frozen? ⟨w.heap.size + 1, 2, none⟩ = false := by rw [← hW]; simp [hfr, go_sem]
  have g3 : w2.frozen? ⟨w.heap.size + 1, 3, none⟩ = false := by rw [← hW]; simp [hfr, go_sem]
  have g4 : w2.frozen? ⟨w.heap.size + 1, 4, none⟩ = false := by rw [← hW]; simp [hfr, go_sem]
  have g5 : w2.frozen? ⟨w.heap.size + 1, 5, none⟩ = false := by rw [← hW]; simp [hfr, go_sem]
  have g6 : w2.frozen? ⟨w.heap.size + 1, 6, none⟩ = false := by rw [← hW]; simp [hfr, go_sem]
  have g7 : w2.frozen? ⟨w.heap.size + 1, 7, none⟩ = false := by rw [← hW]; simp [hfr, go_sem]
  have g8 : w2.frozen? ⟨w.heap.size + 1, 8, none⟩ = false := by rw [← hW]; simp [hfr, go_sem]
  have g9 : w2.frozen? ⟨w.heap.size + 1, 9, none⟩ = false := by rw [← hW]; simp [hfr, go_sem]
  have z0 : w2.cell? ⟨w.heap.size + 1 + 1, 0, none⟩ = some (.int .i64 0) := by rw [← hW]; simp [hcell, go_sem]
  have z1 : w2.cell? ⟨w.heap.size + 1 + 1, 1, none⟩ = some (.int .i64 0) := by rw [← hW]; simp [hcell, go_sem]
  have z2 : w2.cell? ⟨w.heap.size + 1 + 1, 2, none⟩ = some (.int .i64 0) := by rw [← hW]; simp [hcell, go_sem]
  have z3 : w2.cell? ⟨w.heap.size + 1 + 1, 3, none⟩ = some (.int .i64 0) := by rw [← hW]; simp [hcell, go_sem]
  have z4 : w2.cell? ⟨w.heap.size + 1 + 1, 4, none⟩ = some (.int .i64 0) := by rw [← hW]; simp [hcell, go_sem]
  have z5 : w2.cell? ⟨w.heap.size + 1 + 1, 5, none⟩ = some (.int .i64 0) := by rw [← hW]; simp [hcell, go_sem]
  have z6 : w2.cell? ⟨w.heap.size + 1 + 1, 6, none⟩ = some (.int .i64 0) := by rw [← hW]; simp [hcell, go_sem]
  have z7 : w2.cell? ⟨w.heap.size + 1 + 1, 7, none⟩ = some (.int .i64 0) := by rw [← hW]; simp [hcell, go_sem]
  have z8 : w2.cell? ⟨w.heap.size + 1 + 1, 8, none⟩ = some (.bool false) := by rw [← hW]; simp [hcell, go_sem]
  have z9 : w2.cell? ⟨w.heap.size + 1 + 1, 9, none⟩ = some (.int .i64 0) := by rw [← hW]; simp [hcell, go_sem]
  have f0 : w2.frozen? ⟨w.heap.size + 1 + 1, 0, none⟩ = false := by rw [← hW]; simp [hfr, go_sem]
  have f1 : w2.frozen? ⟨w.heap.size + 1 + 1, 1, none⟩ = false := by rw [← hW]; simp [hfr, go_sem]
  have f2 : w2.frozen? ⟨w.heap.size + 1 + 1, 2, none⟩ = false := by rw [← hW]; simp [hfr, go_sem]
  have f3 : w2.frozen? ⟨w.heap.size + 1 + 1, 3, none⟩ = false := by rw [← hW]; simp [hfr, go_sem]
  have f4 : w2.frozen? ⟨w.heap.size + 1 + 1, 4, none⟩ = false := by rw [← hW]; simp [hfr, go_sem]
  have f5 : w2.frozen? ⟨w.heap.size + 1 + 1, 5, none⟩ = false := by rw [← hW]; simp [hfr, go_sem]
  have f6 : w2.frozen? ⟨w.heap.size + 1 + 1, 6, none⟩ = false := by rw [← hW]; simp [hfr, go_sem]
  have f7 : w2.frozen? ⟨w.heap.size + 1 + 1, 7, none⟩ = false := by rw [← hW]; simp [hfr, go_sem]
  have f8 : w2.frozen? ⟨w.heap.size + 1 + 1, 8, none⟩ = false := by rw [← hW]; simp [hfr, go_sem]
  have f9 : w2.frozen? ⟨w.heap.size + 1 + 1, 9, none⟩ = false := by rw [← hW]; simp [hfr, go_sem]
  have hs' : w2.heap.size = w1.heap.size := by rw [← hW]; simp
  have y0 : w.heap.size < w2.heap.size := by omega
  have y1 : w.heap.size + 1 < w2.heap.size := by omega
  have y2 : w.heap.size + 1 + 1 < w2.heap.size := by omega
  have hbel2 : Below w.heap.size w w2 := by rw [← hW]; go_grown
  clear hW hcell hfr hbel hs hs' hz0 hz1 hz2 hb
  have Zz0 := Lib.hid z0
  have Zz1 := Lib.hid z1
  have Zz2 := Lib.hid z2
  have Zz3 := Lib.hid z3
  have Zz4 := Lib.hid z4
  have Zz5 := Lib.hid z5
  have Zz6 := Lib.hid z6
  have Zz7 := Lib.hid z7
  have Zz8 := Lib.hid z8
  have Zz9 := Lib.hid z9
  have Zf0 := Lib.hid f0
  have Zf1 := Lib.hid f1
  have Zf2 := Lib.hid f2
  have Zf3 := Lib.hid f3
  have Zf4 := Lib.hid f4
  have Zf5 := Lib.hid f5
  have Zf6 := Lib.hid f6
  have Zf7 := Lib.hid f7
  have Zf8 := Lib.hid f8
  have Zf9 := Lib.hid f9
  have Zg1 := Lib.hid g1
  have Zg2 := Lib.hid g2
  have Zg3 := Lib.hid g3
  have Zg4 := Lib.hid g4
  have Zg5 := Lib.hid g5
  have Zg6 := Lib.hid g6
  have Zg7 := Lib.hid g7
  have Zg8 := Lib.hid g8
  have Zg9 := Lib.hid g9
  clear z0 z1 z2 z3 z4 z5 z6 z7 z8 z9 f0 f1 f2 f3 f4 f5 f6 f7 f8 f9 g1 g2 g3 g4 g5 g6 g7 g8 g9
  clear H HC hP hn
  go_cut [8] (fun s8 wx => s8 = .int .i64 0 ∧ wx = (((w2.setCell ⟨w.heap.size + 1, 0, none⟩ (.int .i64 (IntKind.i64.wrap (l0 - usedZ false delay since now)))).alloc (.cells #[.slice A n cap, .int .i64 inc, .int .i64 delay] 24)).alloc (.cells #[.int .i64 l0, .int .i64 l1, .int .i64 m0, .int .i64 m1, .int .i64 p0, .int .i64 p1, .int .i64 0, .int .i64 since, .bool false, .int .i64 fallen] 27)).drew)
  case first =>
    go_region_with (go_at_call 17; refine (used_any A n cap inc delay l0 l1 m0 m1 p0 p1 0 since fallen false now _ (by omega) (by omega) (by omega) (by omega) (by omega) (by omega)).mono ?_; rintro e w' ⟨rfl, rfl⟩)
    all_goals
      go_wp2_with fail
      go_meet
      exact ⟨rfl, rfl⟩
  case rest =>
    obtain ⟨rfl, hw3⟩ := hcut
    obtain ⟨w3, hw4⟩ : ∃ w3, w3 = (((w2.setCell ⟨w.heap.size + 1, 0, none⟩ (.int .i64 (IntKind.i64.wrap (l0 - usedZ false delay since now)))).alloc (.cells #[.slice A n cap, .int .i64 inc, .int .i64 delay] 24)).alloc (.cells #[.int .i64 l0, .int .i64 l1, .int .i64 m0, .int .i64 m1, .int .i64 p0, .int .i64 p1, .int .i64 0, .int .i64 since, .bool false, .int .i64 fallen] 27)).drew := ⟨_, rfl⟩
    rw [← hw4] at hw3
    subst hw3
    rw [IntWalk.i64_in _ (by omega)] at hw4
    have z0 := Zz0.out
    have z1 := Zz1.out
    have z2 := Zz2.out
    have z3 := Zz3.out
    have z4 := Zz4.out
    have z5 := Zz5.out
    have z6 := Zz6.out
    have z7 := Zz7.out
    have z8 := Zz8.out
    have z9 := Zz9.out
    have f0 := Zf0.out
    have f1 := Zf1.out
    have f2 := Zf2.out
    have f3 := Zf3.out
    have f4 := Zf4.out
    have f5 := Zf5.out
    have f6 := Zf6.out
    have f7 := Zf7.out
    have f8 := Zf8.out
    have f9 := Zf9.out
    have g1 := Zg1.out
    have g2 := Zg2.out
    have g3 := Zg3.out
    have g4 := Zg4.out
    have g5 := Zg5.out
    have g6 := Zg6.out
    have g7 := Zg7.out
    have g8 := Zg8.out
    have g9 := Zg9.out
    have C0 : wc.cell? ⟨w.heap.size + 1, 0, none⟩ = some (.int .i64 (l0 - usedZ false delay since now)) := by rw [hw4]; simp [go_sem, c0, y0, y1]
    have C1 : wc.cell? ⟨w.heap.size + 1, 1, none⟩ = some (.int .i64 l1) := by rw [hw4]; simp [go_sem, c1, y0, y1]
    have C2 : wc.cell? ⟨w.heap.size + 1, 2, none⟩ = some (.int .i64 m0) := by rw [hw4]; simp [go_sem, c2, y0, y1]
    have C3 : wc.cell? ⟨w.heap.size + 1, 3, none⟩ = some (.int .i64 m1) := by rw [hw4]; simp [go_sem, c3, y0, y1]
    have C4 : wc.cell? ⟨w.heap.size + 1, 4, none⟩ = some (.int .i64 p0) := by rw [hw4]; simp [go_sem, c4, y0, y1]
    have C5 : wc.cell? ⟨w.heap.size + 1, 5, none⟩ = some (.int .i64 p1) := by rw [hw4]; simp [go_sem, c5, y0, y1]
    have C6 : wc.cell? ⟨w.heap.size + 1, 6, none⟩ = some (.int .i64 0) := by rw [hw4]; simp [go_sem, c6, y0, y1]
    have C7 : wc.cell? ⟨w.heap.size + 1, 7, none⟩ = some (.int .i64 since) := by rw [hw4]; simp [go_sem, c7, y0, y1]
    have C8 : wc.cell? ⟨w.heap.size + 1, 8, none⟩ = some (.bool false) := by rw [hw4]; simp [go_sem, c8, y0, y1]
    have C9 : wc.cell? ⟨w.heap.size + 1, 9, none⟩ = some (.int .i64 fallen) := by rw [hw4]; simp [go_sem, c9, y0, y1]
    have G0 : wc.frozen? ⟨w.heap.size + 1, 0, none⟩ = false := by rw [hw4]; simp [go_sem, g0, y0, y1]
    have G1 : wc.frozen? ⟨w.heap.size + 1, 1, none⟩ = false := by rw [hw4]; simp [go_sem, g1, y0, y1]
    have G2 : wc.frozen? ⟨w.heap.size + 1, 2, none⟩ = false := by rw [hw4]; simp [go_sem, g2, y0, y1]
    have G3 : wc.frozen? ⟨w.heap.size + 1, 3, none⟩ = false := by rw [hw4]; simp [go_sem, g3, y0, y1]
    have G4 : wc.frozen? ⟨w.heap.size + 1, 4, none⟩ = false := by rw [hw4]; simp [go_sem, g4, y0, y1]
    have G5 : wc.frozen? ⟨w.heap.size + 1, 5, none⟩ = false := by rw [hw4]; simp [go_sem, g5, y0, y1]
    have G6 : wc.frozen? ⟨w.heap.size + 1, 6, none⟩ = false := by rw [hw4]; simp [go_sem, g6, y0, y1]
    have G7 : wc.frozen? ⟨w.heap.size + 1, 7, none⟩ = false := by rw [hw4]; simp [go_sem, g7, y0, y1]
    have G8 : wc.frozen? ⟨w.heap.size + 1, 8, none⟩ = false := by rw [hw4]; simp [go_sem, g8, y0, y1]
    have G9 : wc.frozen? ⟨w.heap.size + 1, 9, none⟩ = false := by rw [hw4]; simp [go_sem, g9, y0, y1]
    have Y0 : wc.cell? ⟨w.heap.size + 1 + 1, 0, none⟩ = some (.int .i64 0) := by rw [hw4]; simp [go_sem, z0, y1, y2]
    have Y1 : wc.cell? ⟨w.heap.size + 1 + 1, 1, none⟩ = some (.int .i64 0) := by rw [hw4]; simp [go_sem, z1, y1, y2]
    have Y2 : wc.cell? ⟨w.heap.size + 1 + 1, 2, none⟩ = some (.int .i64 0) := by rw [hw4]; simp [go_sem, z2, y1, y2]
    have Y3 : wc.cell? ⟨w.heap.size + 1 + 1, 3, none⟩ = some (.int .i64 0) := by rw [hw4]; simp [go_sem, z3, y1, y2]
    have Y4 : wc.cell? ⟨w.heap.size + 1 + 1, 4, none⟩ = some (.int .i64 0) := by rw [hw4]; simp [go_sem, z4, y1, y2]
    have Y5 : wc.cell? ⟨w.heap.size + 1 + 1, 5, none⟩ = some (.int .i64 0) := by rw [hw4]; simp [go_sem, z5, y1, y2]
    have Y6 : wc.cell? ⟨w.heap.size + 1 + 1, 6, none⟩ = some (.int .i64 0) := by rw [hw4]; simp [go_sem, z6, y1, y2]
    have Y7 : wc.cell? ⟨w.heap.size + 1 + 1, 7, none⟩ = some (.int .i64 0) := by rw [hw4]; simp [go_sem, z7, y1, y2]
    have Y8 : wc.cell? ⟨w.heap.size + 1 + 1, 8, none⟩ = some (.bool false) := by rw [hw4]; simp [go_sem, z8, y1, y2]
    have Y9 : wc.cell? ⟨w.heap.size + 1 + 1, 9, none⟩ = some (.int .i64 0) := by rw [hw4]; simp [go_sem, z9, y1, y2]
    have X0 : wc.frozen? ⟨w.heap.size + 1 + 1, 0, none⟩ = false := by rw [hw4]; simp [go_sem, f0, y1, y2]
    have X1 : wc.frozen? ⟨w.heap.size + 1 + 1, 1, none⟩ = false := by rw [hw4]; simp [go_sem, f1, y1, y2]
    have X2 : wc.frozen? ⟨w.heap.size + 1 + 1, 2, none⟩ = false := by rw [hw4]; simp [go_sem, f2, y1, y2]
    have X3 : wc.frozen? ⟨w.heap.size + 1 + 1, 3, none⟩ = false := by rw [hw4]; simp [go_sem, f3, y1, y2]
    have X4 : wc.frozen? ⟨w.heap.size + 1 + 1, 4, none⟩ = false := by rw [hw4]; simp [go_sem, f4, y1, y2]
    have X5 : wc.frozen? ⟨w.heap.size + 1 + 1, 5, none⟩ = false := by rw [hw4]; simp [go_sem, f5, y1, y2]
    have X6 : wc.frozen? ⟨w.heap.size + 1 + 1, 6, none⟩ = false := by rw [hw4]; simp [go_sem, f6, y1, y2]
    have X7 : wc.frozen? ⟨w.heap.size + 1 + 1, 7, none⟩ = false := by rw [hw4]; simp [go_sem, f7, y1, y2]
    have X8 : wc.frozen? ⟨w.heap.size + 1 + 1, 8, none⟩ = false := by rw [hw4]; simp [go_sem, f8, y1, y2]
    have X9 : wc.frozen? ⟨w.heap.size + 1 + 1, 9, none⟩ = false := by rw [hw4]; simp [go_sem, f9, y1, y2]
    have hsz : w2.heap.size ≤ wc.heap.size := by rw [hw4]; simp; omega
    have hbel3 : Below w.heap.size w wc := by rw [hw4]; go_grown
    clear hw4
    clear z0 f0 g0 c0 z1 f1 g1 c1 z2 f2 g2 c2 z3 f3 g3 c3 z4 f4 g4 c4 z5 f5 g5 c5 z6 f6 g6 c6 z7 f7 g7 c7 z8 f8 g8 c8 z9 f9 g9 c9 r0 r1 r2
    have v0 : w.heap.size < wc.heap.size := by omega
    have v1 : w.heap.size + 1 < wc.heap.size := by omega
    have v2 : w.heap.size + 1 + 1 < wc.heap.size := by omega
    clear y0 y1 y2 hsz
    go_wp2
    refine bodyPost_ret (v := .tuple #[.agg #[.int .i64 (l0 - usedZ false delay since now), .int .i64 l1, .int .i64 m0, .int .i64 m1, .int .i64 p0, .int .i64 p1, .int .i64 0, .int .i64 now, .bool true, .int .i64 fallen], .int .i64 0]) (by simp [results, Try.results10, go_sem, *]) rfl ?_
    refine ⟨rfl, ?_⟩
    go_grown

set_option maxHeartbeats 8000000 in
theorem Stop_ok_1 (A : Option Addr) (n cap : Nat) (inc delay : Int) (ps : List (Int × Int)) (l0 l1 m0 m1 p0 p1 since fallen : Int) (now : Int) (w : World) (hn : n ≤ 9223372036854775807) (hp : PerAt w w.heap.size A n ps) (hr : RuleOk n inc delay ps) (hk : ClkOk n l0 l1 m0 m1 p0 p1 1 since fallen) (e0 : witB now since 100000000 = true) (hf : fallen < 0) (hu : usedZ false delay since now ≤ l1) :
    Calls Try.prog 10 #[.agg #[.slice A n cap, .int .i64 inc, .int .i64 delay], .agg #[.int .i64 l0, .int .i64 l1, .int .i64 m0, .int .i64 m1, .int .i64 p0, .int .i64 p1, .int .i64 1, .int .i64 since, .bool false, .int .i64 fallen], .int .i64 now] w (fun e w' => e = .returned (.tuple #[.agg #[.int .i64 l0, .int .i64 (l1 - usedZ false delay since now), .int .i64 m0, .int .i64 m1, .int .i64 p0, .int .i64 p1, .int .i64 1, .int .i64 now, .bool true, .int .i64 fallen], .int .i64 0]) ∧ Below w.heap.size w w') := by
  have hnow := witB_iff.1 e0
  have hsn := hk.2.2.1
  have hdl := hr.2.2.1
  have hub := usedZ_b false delay since now (by omega) (by omega) (by omega) (by omega)
  have hlb1 : 0 ≤ l1 ∧ l1 ≤ 100000000000 := hk.2.2.2.2.2.2.2.2
  have H := Lib.hid hr
  have HC := Lib.hid hk
  clear hr hk
  have hP := Lib.hid (((hp.alloc (.cells #[.slice A n cap, .int .i64 inc, .int .i64 delay] 24)).alloc (.cells #[.int .i64 l0, .int .i64 l1, .int .i64 m0, .int .i64 m1, .int .i64 p0, .int .i64 p1, .int .i64 1, .int .i64 since, .bool false, .int .i64 fallen] 27)).alloc (.cells #[.int .i64 0, .int .i64 0, .int .i64 0, .int .i64 0, .int .i64 0, .int .i64 0, .int .i64 0, .int .i64 0, .bool false, .int .i64 0] 27))
  clear hp
  go_enter Try.func10, Try.ntmps10
  go_wp2_with fail
  refine (ready_ok_1_false A n cap inc delay ps l0 l1 m0 m1 p0 p1 since fallen now _ hn hP.out H.out HC.out e0 hf hu).mono ?_
  rintro e w1 ⟨rfl, hb⟩
  obtain ⟨hcell, hfr⟩ := bcell hb
  have hs := hb.size
  (try simp only [World.size_alloc] at hs)
  have hz0 : w.heap.size < w1.heap.size := by omega
  have hz1 : w.heap.size + 1 < w1.heap.size := by omega
  have hz2 : w.heap.size + 1 + 1 < w1.heap.size := by omega
  have hbel := ((((Below.refl w.heap.size w).alloc (by go_size) _).alloc (by go_size) _).alloc (by go_size) _).trans (hb.mono (by go_size))
  go_upto_region 4 with (fail)
  generalize hW : ((((((((((w1.setCell ⟨w.heap.size + 1, 0, none⟩ (.int .i64 l0)).setCell ⟨w.heap.size + 1, 1, none⟩ (.int .i64 l1)).setCell ⟨w.heap.size + 1, 2, none⟩ (.int .i64 m0)).setCell ⟨w.heap.size + 1, 3, none⟩ (.int .i64 m1)).setCell ⟨w.heap.size + 1, 4, none⟩ (.int .i64 p0)).setCell ⟨w.heap.size + 1, 5, none⟩ (.int .i64 p1)).setCell ⟨w.heap.size + 1, 6, none⟩ (.int .i64 1)).setCell ⟨w.heap.size + 1, 7, none⟩ (.int .i64 since)).setCell ⟨w.heap.size + 1, 8, none⟩ (.bool false)).setCell ⟨w.heap.size + 1, 9, none⟩ (.int .i64 fallen)) = w2
  have r0 : w2.cell? ⟨w.heap.size, 0, none⟩ = some (.slice A n cap) := by rw [← hW]; simp [hcell, go_sem]
  have r1 : w2.cell? ⟨w.heap.size, 1, none⟩ = some (.int .i64 inc) := by rw [← hW]; simp [hcell, go_sem]
  have r2 : w2.cell? ⟨w.heap.size, 2, none⟩ = some (.int .i64 delay) := by rw [← hW]; simp [hcell, go_sem]
  have c0 : w2.cell? ⟨w.heap.size + 1, 0, none⟩ = some (.int .i64 l0) := by rw [← hW]; simp [hcell, go_sem]
  have c1 : w2.cell? ⟨w.heap.size + 1, 1, none⟩ = some (.int .i64 l1) := by rw [← hW]; simp [hcell, go_sem]
  have c2 : w2.cell? ⟨w.heap.size + 1, 2, none⟩ = some (.int .i64 m0) := by rw [← hW]; simp [hcell, go_sem]
  have c3 : w2.cell? ⟨w.heap.size + 1, 3, none⟩ = some (.int .i64 m1) := by rw [← hW]; simp [hcell, go_sem]
  have c4 : w2.cell? ⟨w.heap.size + 1, 4, none⟩ = some (.int .i64 p0) := by rw [← hW]; simp [hcell, go_sem]
  have c5 : w2.cell? ⟨w.heap.size + 1, 5, none⟩ = some (.int .i64 p1) := by rw [← hW]; simp [hcell, go_sem]
  have c6 : w2.cell? ⟨w.heap.size + 1, 6, none⟩ = some (.int .i64 1) := by rw [← hW]; simp [hcell, go_sem]
  have c7 : w2.cell? ⟨w.heap.size + 1, 7, none⟩ = some (.int .i64 since) := by rw [← hW]; simp [hcell, go_sem]
  have c8 : w2.cell? ⟨w.heap.size + 1, 8, none⟩ = some (.bool false) := by rw [← hW]; simp [hcell, go_sem]
  have c9 : w2.cell? ⟨w.heap.size + 1, 9, none⟩ = some (.int .i64 fallen) := by rw [← hW]; simp [hcell, go_sem]
  have g0 : w2.frozen? ⟨w.heap.size + 1, 0, none⟩ = false := by rw [← hW]; simp [hfr, go_sem]
  have g1 : w2.frozen? ⟨w.heap.size + 1, 1, none⟩ = false := by rw [← hW]; simp [hfr, go_sem]
  have g2 : w2.frozen? ⟨w.heap.size + 1, 2, none⟩ = false := by rw [← hW]; simp [hfr, go_sem]
  have g3 : w2.frozen? ⟨w.heap.size + 1, 3, none⟩ = false := by rw [← hW]; simp [hfr, go_sem]
  have g4 : w2.frozen? ⟨w.heap.size + 1, 4, none⟩ = false := by rw [← hW]; simp [hfr, go_sem]
  have g5 : w2.frozen? ⟨w.heap.size + 1, 5, none⟩ = false := by rw [← hW]; simp [hfr, go_sem]
  have g6 : w2.frozen? ⟨w.heap.size + 1, 6, none⟩ = false := by rw [← hW]; simp [hfr, go_sem]
  have g7 : w2.frozen? ⟨w.heap.size + 1, 7, none⟩ = false := by rw [← hW]; simp [hfr, go_sem]
  have g8 : w2.frozen? ⟨w.heap.size + 1, 8, none⟩ = false := by rw [← hW]; simp [hfr, go_sem]
  have g9 : w2.frozen? ⟨w.heap.size + 1, 9, none⟩ = false := by rw [← hW]; simp [hfr, go_sem]
  have z0 : w2.cell? ⟨w.heap.size + 1 + 1, 0, none⟩ = some (.int .i64 0) := by rw [← hW]; simp [hcell, go_sem]
  have z1 : w2.cell? ⟨w.heap.size + 1 + 1, 1, none⟩ = some (.int .i64 0) := by rw [← hW]; simp [hcell, go_sem]
  have z2 : w2.cell? ⟨w.heap.size + 1 + 1, 2, none⟩ = some (.int .i64 0) := by rw [← hW]; simp [hcell, go_sem]
  have z3 : w2.cell? ⟨w.heap.size + 1 + 1, 3, none⟩ = some (.int .i64 0) := by rw [← hW]; simp [hcell, go_sem]
  have z4 : w2.cell? ⟨w.heap.size + 1 + 1, 4, none⟩ = some (.int .i64 0) := by rw [← hW]; simp [hcell, go_sem]
  have z5 : w2.cell? ⟨w.heap.size + 1 + 1, 5, none⟩ = some (.int .i64 0) := by rw [← hW]; simp [hcell, go_sem]
  have z6 : w2.cell? ⟨w.heap.size + 1 + 1, 6, none⟩ = some (.int .i64 0) := by rw [← hW]; simp [hcell, go_sem]
  have z7 : w2.cell? ⟨w.heap.size + 1 + 1, 7, none⟩ = some (.int .i64 0) := by rw [← hW]; simp [hcell, go_sem]
  have z8 : w2.cell? ⟨w.heap.size + 1 + 1, 8, none⟩ = some (.bool false) := by rw [← hW]; simp [hcell, go_sem]
  have z9 : w2.cell? ⟨w.heap.size + 1 + 1, 9, none⟩ = some (.int .i64 0) := by rw [← hW]; simp [hcell, go_sem]
  have f0 : w2.frozen? ⟨w.heap.size + 1 + 1, 0, none⟩ = false := by rw [← hW]; simp [hfr, go_sem]
  have f1 : w2.frozen? ⟨w.heap.size + 1 + 1, 1, none⟩ = false := by rw [← hW]; simp [hfr, go_sem]
  have f2 : w2.frozen? ⟨w.heap.size + 1 + 1, 2, none⟩ = false := by rw [← hW]; simp [hfr, go_sem]
  have f3 : w2.frozen? ⟨w.heap.size + 1 + 1, 3, none⟩ = false := by rw [← hW]; simp [hfr, go_sem]
  have f4 : w2.frozen? ⟨w.heap.size + 1 + 1, 4, none⟩ = false := by rw [← hW]; simp [hfr, go_sem]
  have f5 : w2.frozen? ⟨w.heap.size + 1 + 1, 5, none⟩ = false := by rw [← hW]; simp [hfr, go_sem]
  have f6 : w2.frozen? ⟨w.heap.size + 1 + 1, 6, none⟩ = false := by rw [← hW]; simp [hfr, go_sem]
  have f7 : w2.frozen? ⟨w.heap.size + 1 + 1, 7, none⟩ = false := by rw [← hW]; simp [hfr, go_sem]
  have f8 : w2.frozen? ⟨w.heap.size + 1 + 1, 8, none⟩ = false := by rw [← hW]; simp [hfr, go_sem]
  have f9 : w2.frozen? ⟨w.heap.size + 1 + 1, 9, none⟩ = false := by rw [← hW]; simp [hfr, go_sem]
  have hs' : w2.heap.size = w1.heap.size := by rw [← hW]; simp
  have y0 : w.heap.size < w2.heap.size := by omega
  have y1 : w.heap.size + 1 < w2.heap.size := by omega
  have y2 : w.heap.size + 1 + 1 < w2.heap.size := by omega
  have hbel2 : Below w.heap.size w w2 := by rw [← hW]; go_grown
  clear hW hcell hfr hbel hs hs' hz0 hz1 hz2 hb
  have Zz0 := Lib.hid z0
  have Zz1 := Lib.hid z1
  have Zz2 := Lib.hid z2
  have Zz3 := Lib.hid z3
  have Zz4 := Lib.hid z4
  have Zz5 := Lib.hid z5
  have Zz6 := Lib.hid z6
  have Zz7 := Lib.hid z7
  have Zz8 := Lib.hid z8
  have Zz9 := Lib.hid z9
  have Zf0 := Lib.hid f0
  have Zf1 := Lib.hid f1
  have Zf2 := Lib.hid f2
  have Zf3 := Lib.hid f3
  have Zf4 := Lib.hid f4
  have Zf5 := Lib.hid f5
  have Zf6 := Lib.hid f6
  have Zf7 := Lib.hid f7
  have Zf8 := Lib.hid f8
  have Zf9 := Lib.hid f9
  have Zg0 := Lib.hid g0
  have Zg2 := Lib.hid g2
  have Zg3 := Lib.hid g3
  have Zg4 := Lib.hid g4
  have Zg5 := Lib.hid g5
  have Zg6 := Lib.hid g6
  have Zg7 := Lib.hid g7
  have Zg8 := Lib.hid g8
  have Zg9 := Lib.hid g9
  clear z0 z1 z2 z3 z4 z5 z6 z7 z8 z9 f0 f1 f2 f3 f4 f5 f6 f7 f8 f9 g0 g2 g3 g4 g5 g6 g7 g8 g9
  clear H HC hP hn
  go_cut [8] (fun s8 wx => s8 = .int .i64 0 ∧ wx = (((w2.setCell ⟨w.heap.size + 1, 1, none⟩ (.int .i64 (IntKind.i64.wrap (l1 - usedZ false delay since now)))).alloc (.cells #[.slice A n cap, .int .i64 inc, .int .i64 delay] 24)).alloc (.cells #[.int .i64 l0, .int .i64 l1, .int .i64 m0, .int .i64 m1, .int .i64 p0, .int .i64 p1, .int .i64 1, .int .i64 since, .bool false, .int .i64 fallen] 27)).drew)
  case first =>
    go_region_with (go_at_call 17; refine (used_any A n cap inc delay l0 l1 m0 m1 p0 p1 1 since fallen false now _ (by omega) (by omega) (by omega) (by omega) (by omega) (by omega)).mono ?_; rintro e w' ⟨rfl, rfl⟩)
    all_goals
      go_wp2_with fail
      go_meet
      exact ⟨rfl, rfl⟩
  case rest =>
    obtain ⟨rfl, hw3⟩ := hcut
    obtain ⟨w3, hw4⟩ : ∃ w3, w3 = (((w2.setCell ⟨w.heap.size + 1, 1, none⟩ (.int .i64 (IntKind.i64.wrap (l1 - usedZ false delay since now)))).alloc (.cells #[.slice A n cap, .int .i64 inc, .int .i64 delay] 24)).alloc (.cells #[.int .i64 l0, .int .i64 l1, .int .i64 m0, .int .i64 m1, .int .i64 p0, .int .i64 p1, .int .i64 1, .int .i64 since, .bool false, .int .i64 fallen] 27)).drew := ⟨_, rfl⟩
    rw [← hw4] at hw3
    subst hw3
    rw [IntWalk.i64_in _ (by omega)] at hw4
    have z0 := Zz0.out
    have z1 := Zz1.out
    have z2 := Zz2.out
    have z3 := Zz3.out
    have z4 := Zz4.out
    have z5 := Zz5.out
    have z6 := Zz6.out
    have z7 := Zz7.out
    have z8 := Zz8.out
    have z9 := Zz9.out
    have f0 := Zf0.out
    have f1 := Zf1.out
    have f2 := Zf2.out
    have f3 := Zf3.out
    have f4 := Zf4.out
    have f5 := Zf5.out
    have f6 := Zf6.out
    have f7 := Zf7.out
    have f8 := Zf8.out
    have f9 := Zf9.out
    have g0 := Zg0.out
    have g2 := Zg2.out
    have g3 := Zg3.out
    have g4 := Zg4.out
    have g5 := Zg5.out
    have g6 := Zg6.out
    have g7 := Zg7.out
    have g8 := Zg8.out
    have g9 := Zg9.out
    have C0 : wc.cell? ⟨w.heap.size + 1, 0, none⟩ = some (.int .i64 l0) := by rw [hw4]; simp [go_sem, c0, y0, y1]
    have C1 : wc.cell? ⟨w.heap.size + 1, 1, none⟩ = some (.int .i64 (l1 - usedZ false delay since now)) := by rw [hw4]; simp [go_sem, c1, y0, y1]
    have C2 : wc.cell? ⟨w.heap.size + 1, 2, none⟩ = some (.int .i64 m0) := by rw [hw4]; simp [go_sem, c2, y0, y1]
    have C3 : wc.cell? ⟨w.heap.size + 1, 3, none⟩ = some (.int .i64 m1) := by rw [hw4]; simp [go_sem, c3, y0, y1]
    have C4 : wc.cell? ⟨w.heap.size + 1, 4, none⟩ = some (.int .i64 p0) := by rw [hw4]; simp [go_sem, c4, y0, y1]
    have C5 : wc.cell? ⟨w.heap.size + 1, 5, none⟩ = some (.int .i64 p1) := by rw [hw4]; simp [go_sem, c5, y0, y1]
    have C6 : wc.cell? ⟨w.heap.size + 1, 6, none⟩ = some (.int .i64 1) := by rw [hw4]; simp [go_sem, c6, y0, y1]
    have C7 : wc.cell? ⟨w.heap.size + 1, 7, none⟩ = some (.int .i64 since) := by rw [hw4]; simp [go_sem, c7, y0, y1]
    have C8 : wc.cell? ⟨w.heap.size + 1, 8, none⟩ = some (.bool false) := by rw [hw4]; simp [go_sem, c8, y0, y1]
    have C9 : wc.cell? ⟨w.heap.size + 1, 9, none⟩ = some (.int .i64 fallen) := by rw [hw4]; simp [go_sem, c9, y0, y1]
    have G0 : wc.frozen? ⟨w.heap.size + 1, 0, none⟩ = false := by rw [hw4]; simp [go_sem, g0, y0, y1]
    have G1 : wc.frozen? ⟨w.heap.size + 1, 1, none⟩ = false := by rw [hw4]; simp [go_sem, g1, y0, y1]
    have G2 : wc.frozen? ⟨w.heap.size + 1, 2, none⟩ = false := by rw [hw4]; simp [go_sem, g2, y0, y1]
    have G3 : wc.frozen? ⟨w.heap.size + 1, 3, none⟩ = false := by rw [hw4]; simp [go_sem, g3, y0, y1]
    have G4 : wc.frozen? ⟨w.heap.size + 1, 4, none⟩ = false := by rw [hw4]; simp [go_sem, g4, y0, y1]
    have G5 : wc.frozen? ⟨w.heap.size + 1, 5, none⟩ = false := by rw [hw4]; simp [go_sem, g5, y0, y1]
    have G6 : wc.frozen? ⟨w.heap.size + 1, 6, none⟩ = false := by rw [hw4]; simp [go_sem, g6, y0, y1]
    have G7 : wc.frozen? ⟨w.heap.size + 1, 7, none⟩ = false := by rw [hw4]; simp [go_sem, g7, y0, y1]
    have G8 : wc.frozen? ⟨w.heap.size + 1, 8, none⟩ = false := by rw [hw4]; simp [go_sem, g8, y0, y1]
    have G9 : wc.frozen? ⟨w.heap.size + 1, 9, none⟩ = false := by rw [hw4]; simp [go_sem, g9, y0, y1]
    have Y0 : wc.cell? ⟨w.heap.size + 1 + 1, 0, none⟩ = some (.int .i64 0) := by rw [hw4]; simp [go_sem, z0, y1, y2]
    have Y1 : wc.cell? ⟨w.heap.size + 1 + 1, 1, none⟩ = some (.int .i64 0) := by rw [hw4]; simp [go_sem, z1, y1, y2]
    have Y2 : wc.cell? ⟨w.heap.size + 1 + 1, 2, none⟩ = some (.int .i64 0) := by rw [hw4]; simp [go_sem, z2, y1, y2]
    have Y3 : wc.cell? ⟨w.heap.size + 1 + 1, 3, none⟩ = some (.int .i64 0) := by rw [hw4]; simp [go_sem, z3, y1, y2]
    have Y4 : wc.cell? ⟨w.heap.size + 1 + 1, 4, none⟩ = some (.int .i64 0) := by rw [hw4]; simp [go_sem, z4, y1, y2]
    have Y5 : wc.cell? ⟨w.heap.size + 1 + 1, 5, none⟩ = some (.int .i64 0) := by rw [hw4]; simp [go_sem, z5, y1, y2]
    have Y6 : wc.cell? ⟨w.heap.size + 1 + 1, 6, none⟩ = some (.int .i64 0) := by rw [hw4]; simp [go_sem, z6, y1, y2]
    have Y7 : wc.cell? ⟨w.heap.size + 1 + 1, 7, none⟩ = some (.int .i64 0) := by rw [hw4]; simp [go_sem, z7, y1, y2]
    have Y8 : wc.cell? ⟨w.heap.size + 1 + 1, 8, none⟩ = some (.bool false) := by rw [hw4]; simp [go_sem, z8, y1, y2]
    have Y9 : wc.cell? ⟨w.heap.size + 1 + 1, 9, none⟩ = some (.int .i64 0) := by rw [hw4]; simp [go_sem, z9, y1, y2]
    have X0 : wc.frozen? ⟨w.heap.size + 1 + 1, 0, none⟩ = false := by rw [hw4]; simp [go_sem, f0, y1, y2]
    have X1 : wc.frozen? ⟨w.heap.size + 1 + 1, 1, none⟩ = false := by rw [hw4]; simp [go_sem, f1, y1, y2]
    have X2 : wc.frozen? ⟨w.heap.size + 1 + 1, 2, none⟩ = false := by rw [hw4]; simp [go_sem, f2, y1, y2]
    have X3 : wc.frozen? ⟨w.heap.size + 1 + 1, 3, none⟩ = false := by rw [hw4]; simp [go_sem, f3, y1, y2]
    have X4 : wc.frozen? ⟨w.heap.size + 1 + 1, 4, none⟩ = false := by rw [hw4]; simp [go_sem, f4, y1, y2]
    have X5 : wc.frozen? ⟨w.heap.size + 1 + 1, 5, none⟩ = false := by rw [hw4]; simp [go_sem, f5, y1, y2]
    have X6 : wc.frozen? ⟨w.heap.size + 1 + 1, 6, none⟩ = false := by rw [hw4]; simp [go_sem, f6, y1, y2]
    have X7 : wc.frozen? ⟨w.heap.size + 1 + 1, 7, none⟩ = false := by rw [hw4]; simp [go_sem, f7, y1, y2]
    have X8 : wc.frozen? ⟨w.heap.size + 1 + 1, 8, none⟩ = false := by rw [hw4]; simp [go_sem, f8, y1, y2]
    have X9 : wc.frozen? ⟨w.heap.size + 1 + 1, 9, none⟩ = false := by rw [hw4]; simp [go_sem, f9, y1, y2]
    have hsz : w2.heap.size ≤ wc.heap.size := by rw [hw4]; simp; omega
    have hbel3 : Below w.heap.size w wc := by rw [hw4]; go_grown
    clear hw4
    clear z0 f0 g0 c0 z1 f1 g1 c1 z2 f2 g2 c2 z3 f3 g3 c3 z4 f4 g4 c4 z5 f5 g5 c5 z6 f6 g6 c6 z7 f7 g7 c7 z8 f8 g8 c8 z9 f9 g9 c9 r0 r1 r2
    have v0 : w.heap.size < wc.heap.size := by omega
    have v1 : w.heap.size + 1 < wc.heap.size := by omega
    have v2 : w.heap.size + 1 + 1 < wc.heap.size := by omega
    clear y0 y1 y2 hsz
    go_wp2
    refine bodyPost_ret (v := .tuple #[.agg #[.int .i64 l0, .int .i64 (l1 - usedZ false delay since now), .int .i64 m0, .int .i64 m1, .int .i64 p0, .int .i64 p1, .int .i64 1, .int .i64 now, .bool true, .int .i64 fallen], .int .i64 0]) (by simp [results, Try.results10, go_sem, *]) rfl ?_
    refine ⟨rfl, ?_⟩
    go_grown
end Go.Proofs.Ytpcllegmdioafaa
