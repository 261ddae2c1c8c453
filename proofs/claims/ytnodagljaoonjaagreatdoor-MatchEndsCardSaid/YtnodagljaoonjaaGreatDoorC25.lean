/- clock.ready, clock.Press where all is well. -/
import Derived.Test.YtnodagljaoonjaaGreatDoorC24
import Derived.Test.YtnodagljaoonjaaGreatDoorC09
import Derived.Test.YtnodagljaoonjaaGreatDoorC05
import Derived.Test.YtnodagljaoonjaaGreatDoorC04
import Derived.Deep.Cut
import Derived.Deep.RegionWith
import Derived.Deep.DeepCutAuto
import Derived.BigQuiet
import Derived.Deep.DrawnRows
import Derived.StillTailTactics
import Derived.Deep.MidRow
/- The contracts of clock.ready, clock.Go and clock.Fall. -/
namespace Go.Proofs.YtnodagljaoonjaaGreatDoor.clk
open Go.ChangeShapes Go.WideShapes Go.ChangeAt Go.RowKit
set_option linter.unusedVariables false
set_option maxHeartbeats 8000000
set_option maxRecDepth 100000
theorem ready_ok_0_false (A : Option Addr) (n cap : Nat) (inc delay : Int) (ps : List (Int × Int)) (l0 l1 m0 m1 p0 p1 since fallen : Int) (now : Int) (w : World) (hn : n ≤ 9223372036854775807) (hp : PerAt w w.heap.size A n ps) (hr : RuleOk n inc delay ps) (hk : ClkOk n l0 l1 m0 m1 p0 p1 0 since fallen) (e0 : witB now since 100000000 = true) (hf : fallen < 0) (hu : usedZ false delay since now ≤ l0) :
  Calls Tryz.prog 158 #[.agg #[.slice A n cap, .int .i64 inc, .int .i64 delay], .agg #[.int .i64 l0, .int .i64 l1, .int .i64 m0, .int .i64 m1, .int .i64 p0, .int .i64 p1, .int .i64 0, .int .i64 since, .bool false, .int .i64 fallen], .int .i64 now, .bool false] w (fun e w' => e = .returned (.tuple #[.agg #[.int .i64 l0, .int .i64 l1, .int .i64 m0, .int .i64 m1, .int .i64 p0, .int .i64 p1, .int .i64 0, .int .i64 since, .bool false, .int .i64 fallen], .int .i64 0]) ∧ Below w.heap.size w w') := by
 have H := Lib.hid hr
 have HC := Lib.hid hk
 clear hr hk
 have hP := Lib.hid (((hp.alloc (.cells #[.slice A n cap, .int .i64 inc, .int .i64 delay] 29)).alloc (.cells #[.int .i64 l0, .int .i64 l1, .int .i64 m0, .int .i64 m1, .int .i64 p0, .int .i64 p1, .int .i64 0, .int .i64 since, .bool false, .int .i64 fallen] 44)).alloc (.cells #[.int .i64 0, .int .i64 0, .int .i64 0, .int .i64 0, .int .i64 0, .int .i64 0, .int .i64 0, .int .i64 0, .bool false, .int .i64 0] 44))
 clear hp
 go_enter Tryz.func158, Tryz.ntmps158
 go_wp2_with fail
 refine (Look_stay_0 A n cap inc delay ps l0 l1 m0 m1 p0 p1 since fallen false now _ hn hP.out H.out HC.out e0 hf hu).mono ?_
 rintro e w1 ⟨rfl, hb⟩
 obtain ⟨hcell, hfr⟩ := bcell hb
 have hs := hb.size
 (try simp only [World.size_alloc] at hs)
 have hz0 : w.heap.size < w1.heap.size := by omega
 have hz1 : w.heap.size + 1 < w1.heap.size := by omega
 have hz2 : w.heap.size + 1 + 1 < w1.heap.size := by omega
 have hbel := ((((Below.refl w.heap.size w).alloc (by go_size) _).alloc (by go_size) _).alloc (by go_size) _).trans (hb.mono (by go_size))
 go_upto_region 2 with (fail)
 generalize hW : ((((((((((w1.setCell ⟨w.heap.size + 1, 0, none⟩ (.int .i64 l0)).setCell ⟨w.heap.size + 1, 1, none⟩ (.int .i64 l1)).setCell ⟨w.heap.size + 1, 2, none⟩ (.int .i64 m0)).setCell ⟨w.heap.size + 1, 3, none⟩ (.int .i64 m1)).setCell ⟨w.heap.size + 1, 4, none⟩ (.int .i64 p0)).setCell ⟨w.heap.size + 1, 5, none⟩ (.int .i64 p1)).setCell ⟨w.heap.size + 1, 6, none⟩ (.int .i64 0)).setCell ⟨w.heap.size + 1, 7, none⟩ (.int .i64 since)).setCell ⟨w.heap.size + 1, 8, none⟩ (.bool false)).setCell ⟨w.heap.size + 1, 9, none⟩ (.int .i64 fallen)) = w2
 have r0 : w2.cell? ⟨w.heap.size, 0, none⟩ = some (.slice A n cap) := by rw [← hW]; simp [hcell, go_sem]
 have r1 : w2.cell? ⟨w.heap.size, 1, none⟩ = some (.int .i64 inc) := by rw [← hW]; simp [hcell, go_sem]
 have r2 : w2.cell? ⟨w.heap.size, 2, none⟩ = some (.int .i64 delay) := by rw [← hW]; simp [hcell, go_sem]
 have c0 : w2.cell? ⟨w.heap.size + 1, 0, none⟩ = some (.int .i64 l0) := by rw [← hW]; simp [hcell, go_sem]
 have c1 : w2.cell? ⟨w.heap.size + 1, 1, none⟩ = some (.int .i64 l1) := by rw [← hW]; simp [hcell, go_sem]
 have c2 : w2.cell? ⟨w.heap.size + 1, 2, none⟩ = some (.int .i64 m0) := by rw [← hW]; simp [hcell, go_sem]
 have c3 : w2.cell? ⟨w.heap.size + 1, 3, none⟩ = some (.int .i64 m1) := by rw [← hW]; simp [hcell, go_sem]
 have c4 : w2.cell? ⟨w.heap.size + 1, 4, none⟩ = some (.int .i64 p0) := by rw [← hW]; simp [hcell, go_sem]
 have c5 : w2.cell? ⟨w.heap.size + 1, 5, none⟩ = some (.int .i64 p1) := by rw [← hW]; simp [hcell, go_sem]
 have c6 : w2.cell? ⟨w.heap.size + 1, 6, none⟩ = some (.int .i64 0) := by rw [← hW]; simp [hcell, go_sem]
 have c7 : w2.cell? ⟨w.heap.size + 1, 7, none⟩ = some (.int .i64 since) := by rw [← hW]; simp [hcell, go_sem]
 have c8 : w2.cell? ⟨w.heap.size + 1, 8, none⟩ = some (.bool false) := by rw [← hW]; simp [hcell, go_sem]
 have c9 : w2.cell? ⟨w.heap.size + 1, 9, none⟩ = some (.int .i64 fallen) := by rw [← hW]; simp [hcell, go_sem]
 have g0 : w2.frozen? ⟨w.heap.size + 1, 0, none⟩ = false := by rw [← hW]; simp [hfr, go_sem]
 have g1 : w2.frozen? ⟨w.heap.size + 1, 1, none⟩ = false := by rw [← hW]; simp [hfr, go_sem]
 have g2 : w2.frozen? ⟨w.heap.size + 1, 2, none⟩ = false := by rw [← hW]; simp [hfr, go_sem]
 have g3 : w2.frozen? ⟨w.heap.size + 1, 3, none⟩ = false := by rw [← hW]; simp [hfr, go_sem]
 have g4 : w2.frozen? ⟨w.heap.size + 1, 4, none⟩ = false := by rw [← hW]; simp [hfr, go_sem]
 have g5 : w2.frozen? ⟨w.heap.size + 1, 5, none⟩ = false := by rw [← hW]; simp [hfr, go_sem]
 have g6 : w2.frozen? ⟨w.heap.size + 1, 6, none⟩ = false := by rw [← hW]; simp [hfr, go_sem]
 have g7 : w2.frozen? ⟨w.heap.size + 1, 7, none⟩ = false := by rw [← hW]; simp [hfr, go_sem]
 have g8 : w2.frozen? ⟨w.heap.size + 1, 8, none⟩ = false := by rw [← hW]; simp [hfr, go_sem]
 have g9 : w2.frozen? ⟨w.heap.size + 1, 9, none⟩ = false := by rw [← hW]; simp [hfr, go_sem]
 have z0 : w2.cell? ⟨w.heap.size + 1 + 1, 0, none⟩ = some (.int .i64 0) := by rw [← hW]; simp [hcell, go_sem]
 have z1 : w2.cell? ⟨w.heap.size + 1 + 1, 1, none⟩ = some (.int .i64 0) := by rw [← hW]; simp [hcell, go_sem]
 have z2 : w2.cell? ⟨w.heap.size + 1 + 1, 2, none⟩ = some (.int .i64 0) := by rw [← hW]; simp [hcell, go_sem]
 have z3 : w2.cell? ⟨w.heap.size + 1 + 1, 3, none⟩ = some (.int .i64 0) := by rw [← hW]; simp [hcell, go_sem]
 have z4 : w2.cell? ⟨w.heap.size + 1 + 1, 4, none⟩ = some (.int .i64 0) := by rw [← hW]; simp [hcell, go_sem]
 have z5 : w2.cell? ⟨w.heap.size + 1 + 1, 5, none⟩ = some (.int .i64 0) := by rw [← hW]; simp [hcell, go_sem]
 have z6 : w2.cell? ⟨w.heap.size + 1 + 1, 6, none⟩ = some (.int .i64 0) := by rw [← hW]; simp [hcell, go_sem]
 have z7 : w2.cell? ⟨w.heap.size + 1 + 1, 7, none⟩ = some (.int .i64 0) := by rw [← hW]; simp [hcell, go_sem]
 have z8 : w2.cell? ⟨w.heap.size + 1 + 1, 8, none⟩ = some (.bool false) := by rw [← hW]; simp [hcell, go_sem]
 have z9 : w2.cell? ⟨w.heap.size + 1 + 1, 9, none⟩ = some (.int .i64 0) := by rw [← hW]; simp [hcell, go_sem]
 have f0 : w2.frozen? ⟨w.heap.size + 1 + 1, 0, none⟩ = false := by rw [← hW]; simp [hfr, go_sem]
 have f1 : w2.frozen? ⟨w.heap.size + 1 + 1, 1, none⟩ = false := by rw [← hW]; simp [hfr, go_sem]
 have f2 : w2.frozen? ⟨w.heap.size + 1 + 1, 2, none⟩ = false := by rw [← hW]; simp [hfr, go_sem]
 have f3 : w2.frozen? ⟨w.heap.size + 1 + 1, 3, none⟩ = false := by rw [← hW]; simp [hfr, go_sem]
 have f4 : w2.frozen? ⟨w.heap.size + 1 + 1, 4, none⟩ = false := by rw [← hW]; simp [hfr, go_sem]
 have f5 : w2.frozen? ⟨w.heap.size + 1 + 1, 5, none⟩ = false := by rw [← hW]; simp [hfr, go_sem]
 have f6 : w2.frozen? ⟨w.heap.size + 1 + 1, 6, none⟩ = false := by rw [← hW]; simp [hfr, go_sem]
 have f7 : w2.frozen? ⟨w.heap.size + 1 + 1, 7, none⟩ = false := by rw [← hW]; simp [hfr, go_sem]
 have f8 : w2.frozen? ⟨w.heap.size + 1 + 1, 8, none⟩ = false := by rw [← hW]; simp [hfr, go_sem]
 have f9 : w2.frozen? ⟨w.heap.size + 1 + 1, 9, none⟩ = false := by rw [← hW]; simp [hfr, go_sem]
 have hs' : w2.heap.size = w1.heap.size := by rw [← hW]; simp
 have y0 : w.heap.size < w2.heap.size := by omega
 have y1 : w.heap.size + 1 < w2.heap.size := by omega
 have y2 : w.heap.size + 1 + 1 < w2.heap.size := by omega
 have hbel2 : Below w.heap.size w w2 := by rw [← hW]; go_grown
 clear hW hcell hfr hbel hs hs' hz0 hz1 hz2 hb
 go_wp2
 refine bodyPost_ret (v := .tuple #[.agg #[.int .i64 l0, .int .i64 l1, .int .i64 m0, .int .i64 m1, .int .i64 p0, .int .i64 p1, .int .i64 0, .int .i64 since, .bool false, .int .i64 fallen], .int .i64 0]) (by simp [results, Tryz.results158, go_sem, *]) rfl ?_
 refine ⟨rfl, ?_⟩
 go_grown
theorem ready_ok_1_false (A : Option Addr) (n cap : Nat) (inc delay : Int) (ps : List (Int × Int)) (l0 l1 m0 m1 p0 p1 since fallen : Int) (now : Int) (w : World) (hn : n ≤ 9223372036854775807) (hp : PerAt w w.heap.size A n ps) (hr : RuleOk n inc delay ps) (hk : ClkOk n l0 l1 m0 m1 p0 p1 1 since fallen) (e0 : witB now since 100000000 = true) (hf : fallen < 0) (hu : usedZ false delay since now ≤ l1) :
  Calls Tryz.prog 158 #[.agg #[.slice A n cap, .int .i64 inc, .int .i64 delay], .agg #[.int .i64 l0, .int .i64 l1, .int .i64 m0, .int .i64 m1, .int .i64 p0, .int .i64 p1, .int .i64 1, .int .i64 since, .bool false, .int .i64 fallen], .int .i64 now, .bool false] w (fun e w' => e = .returned (.tuple #[.agg #[.int .i64 l0, .int .i64 l1, .int .i64 m0, .int .i64 m1, .int .i64 p0, .int .i64 p1, .int .i64 1, .int .i64 since, .bool false, .int .i64 fallen], .int .i64 0]) ∧ Below w.heap.size w w') := by
 have H := Lib.hid hr
 have HC := Lib.hid hk
 clear hr hk
 have hP := Lib.hid (((hp.alloc (.cells #[.slice A n cap, .int .i64 inc, .int .i64 delay] 29)).alloc (.cells #[.int .i64 l0, .int .i64 l1, .int .i64 m0, .int .i64 m1, .int .i64 p0, .int .i64 p1, .int .i64 1, .int .i64 since, .bool false, .int .i64 fallen] 44)).alloc (.cells #[.int .i64 0, .int .i64 0, .int .i64 0, .int .i64 0, .int .i64 0, .int .i64 0, .int .i64 0, .int .i64 0, .bool false, .int .i64 0] 44))
 clear hp
 go_enter Tryz.func158, Tryz.ntmps158
 go_wp2_with fail
 refine (Look_stay_1 A n cap inc delay ps l0 l1 m0 m1 p0 p1 since fallen false now _ hn hP.out H.out HC.out e0 hf hu).mono ?_
 rintro e w1 ⟨rfl, hb⟩
 obtain ⟨hcell, hfr⟩ := bcell hb
 have hs := hb.size
 (try simp only [World.size_alloc] at hs)
 have hz0 : w.heap.size < w1.heap.size := by omega
 have hz1 : w.heap.size + 1 < w1.heap.size := by omega
 have hz2 : w.heap.size + 1 + 1 < w1.heap.size := by omega
 have hbel := ((((Below.refl w.heap.size w).alloc (by go_size) _).alloc (by go_size) _).alloc (by go_size) _).trans (hb.mono (by go_size))
 go_upto_region 2 with (fail)
 generalize hW : ((((((((((w1.setCell ⟨w.heap.size + 1, 0, none⟩ (.int .i64 l0)).setCell ⟨w.heap.size + 1, 1, none⟩ (.int .i64 l1)).setCell ⟨w.heap.size + 1, 2, none⟩ (.int .i64 m0)).setCell ⟨w.heap.size + 1, 3, none⟩ (.int .i64 m1)).setCell ⟨w.heap.size + 1, 4, none⟩ (.int .i64 p0)).setCell ⟨w.heap.size + 1, 5, none⟩ (.int .i64 p1)).setCell ⟨w.heap.size + 1, 6, none⟩ (.int .i64 1)).setCell ⟨w.heap.size + 1, 7, none⟩ (.int .i64 since)).setCell ⟨w.heap.size + 1, 8, none⟩ (.bool false)).setCell ⟨w.heap.size + 1, 9, none⟩ (.int .i64 fallen)) = w2
 have r0 : w2.cell? ⟨w.heap.size, 0, none⟩ = some (.slice A n cap) := by rw [← hW]; simp [hcell, go_sem]
 have r1 : w2.cell? ⟨w.heap.size, 1, none⟩ = some (.int .i64 inc) := by rw [← hW]; simp [hcell, go_sem]
 have r2 : w2.cell? ⟨w.heap.size, 2, none⟩ = some (.int .i64 delay) := by rw [← hW]; simp [hcell, go_sem]
 have c0 : w2.cell? ⟨w.heap.size + 1, 0, none⟩ = some (.int .i64 l0) := by rw [← hW]; simp [hcell, go_sem]
 have c1 : w2.cell? ⟨w.heap.size + 1, 1, none⟩ = some (.int .i64 l1) := by rw [← hW]; simp [hcell, go_sem]
 have c2 : w2.cell? ⟨w.heap.size + 1, 2, none⟩ = some (.int .i64 m0) := by rw [← hW]; simp [hcell, go_sem]
 have c3 : w2.cell? ⟨w.heap.size + 1, 3, none⟩ = some (.int .i64 m1) := by rw [← hW]; simp [hcell, go_sem]
 have c4 : w2.cell? ⟨w.heap.size + 1, 4, none⟩ = some (.int .i64 p0) := by rw [← hW]; simp [hcell, go_sem]
 have c5 : w2.cell? ⟨w.heap.size + 1, 5, none⟩ = some (.int .i64 p1) := by rw [← hW]; simp [hcell, go_sem]
 have c6 : w2.cell? ⟨w.heap.size + 1, 6, none⟩ = some (.int .i64 1) := by rw [← hW]; simp [hcell, go_sem]
 have c7 : w2.cell? ⟨w.heap.size + 1, 7, none⟩ = some (.int .i64 since) := by rw [← hW]; simp [hcell, go_sem]
 have c8 : w2.cell? ⟨w.heap.size + 1, 8, none⟩ = some (.bool false) := by rw [← hW]; simp [hcell, go_sem]
 have c9 : w2.cell? ⟨w.heap.size + 1, 9, none⟩ = some (.int .i64 fallen) := by rw [← hW]; simp [hcell, go_sem]
 have g0 : w2.frozen? ⟨w.heap.size + 1, 0, none⟩ = false := by rw [← hW]; simp [hfr, go_sem]
 have g1 : w2.frozen? ⟨w.heap.size + 1, 1, none⟩ = false := by rw [← hW]; simp [hfr, go_sem]
 have g2 : w2.frozen? ⟨w.heap.size + 1, 2, none⟩ = false := by rw [← hW]; simp [hfr, go_sem]
 have g3 : w2.frozen? ⟨w.heap.size + 1, 3, none⟩ = false := by rw [← hW]; simp [hfr, go_sem]
 have g4 : w2.frozen? ⟨w.heap.size + 1, 4, none⟩ = false := by rw [← hW]; simp [hfr, go_sem]
 have g5 : w2.frozen? ⟨w.heap.size + 1, 5, none⟩ = false := by rw [← hW]; simp [hfr, go_sem]
 have g6 : w2.frozen? ⟨w.heap.size + 1, 6, none⟩ = false := by rw [← hW]; simp [hfr, go_sem]
 have g7 : w2.frozen? ⟨w.heap.size + 1, 7, none⟩ = false := by rw [← hW]; simp [hfr, go_sem]
 have g8 : w2.frozen? ⟨w.heap.size + 1, 8, none⟩ = false := by rw [← hW]; simp [hfr, go_sem]
 have g9 : w2.frozen? ⟨w.heap.size + 1, 9, none⟩ = false := by rw [← hW]; simp [hfr, go_sem]
 have z0 : w2.cell? ⟨w.heap.size + 1 + 1, 0, none⟩ = some (.int .i64 0) := by rw [← hW]; simp [hcell, go_sem]
 have z1 : w2.cell? ⟨w.heap.size + 1 + 1, 1, none⟩ = some (.int .i64 0) := by rw [← hW]; simp [hcell, go_sem]
 have z2 : w2.cell? ⟨w.heap.size + 1 + 1, 2, none⟩ = some (.int .i64 0) := by rw [← hW]; simp [hcell, go_sem]
 have z3 : w2.cell? ⟨w.heap.size + 1 + 1, 3, none⟩ = some (.int .i64 0) := by rw [← hW]; simp [hcell, go_sem]
 have z4 : w2.cell? ⟨w.heap.size + 1 + 1, 4, none⟩ = some (.int .i64 0) := by rw [← hW]; simp [hcell, go_sem]
 have z5 : w2.cell? ⟨w.heap.size + 1 + 1, 5, none⟩ = some (.int .i64 0) := by rw [← hW]; simp [hcell, go_sem]
 have z6 : w2.cell? ⟨w.heap.size + 1 + 1, 6, none⟩ = some (.int .i64 0) := by rw [← hW]; simp [hcell, go_sem]
 have z7 : w2.cell? ⟨w.heap.size + 1 + 1, 7, none⟩ = some (.int .i64 0) := by rw [← hW]; simp [hcell, go_sem]
 have z8 : w2.cell? ⟨w.heap.size + 1 + 1, 8, none⟩ = some (.bool false) := by rw [← hW]; simp [hcell, go_sem]
 have z9 : w2.cell? ⟨w.heap.size + 1 + 1, 9, none⟩ = some (.int .i64 0) := by rw [← hW]; simp [hcell, go_sem]
 have f0 : w2.frozen? ⟨w.heap.size + 1 + 1, 0, none⟩ = false := by rw [← hW]; simp [hfr, go_sem]
 have f1 : w2.frozen? ⟨w.heap.size + 1 + 1, 1, none⟩ = false := by rw [← hW]; simp [hfr, go_sem]
 have f2 : w2.frozen? ⟨w.heap.size + 1 + 1, 2, none⟩ = false := by rw [← hW]; simp [hfr, go_sem]
 have f3 : w2.frozen? ⟨w.heap.size + 1 + 1, 3, none⟩ = false := by rw [← hW]; simp [hfr, go_sem]
 have f4 : w2.frozen? ⟨w.heap.size + 1 + 1, 4, none⟩ = false := by rw [← hW]; simp [hfr, go_sem]
 have f5 : w2.frozen? ⟨w.heap.size + 1 + 1, 5, none⟩ = false := by rw [← hW]; simp [hfr, go_sem]
 have f6 : w2.frozen? ⟨w.heap.size + 1 + 1, 6, none⟩ = false := by rw [← hW]; simp [hfr, go_sem]
 have f7 : w2.frozen? ⟨w.heap.size + 1 + 1, 7, none⟩ = false := by rw [← hW]; simp [hfr, go_sem]
 have f8 : w2.frozen? ⟨w.heap.size + 1 + 1, 8, none⟩ = false := by rw [← hW]; simp [hfr, go_sem]
 have f9 : w2.frozen? ⟨w.heap.size + 1 + 1, 9, none⟩ = false := by rw [← hW]; simp [hfr, go_sem]
 have hs' : w2.heap.size = w1.heap.size := by rw [← hW]; simp
 have y0 : w.heap.size < w2.heap.size := by omega
 have y1 : w.heap.size + 1 < w2.heap.size := by omega
 have y2 : w.heap.size + 1 + 1 < w2.heap.size := by omega
 have hbel2 : Below w.heap.size w w2 := by rw [← hW]; go_grown
 clear hW hcell hfr hbel hs hs' hz0 hz1 hz2 hb
 go_wp2
 refine bodyPost_ret (v := .tuple #[.agg #[.int .i64 l0, .int .i64 l1, .int .i64 m0, .int .i64 m1, .int .i64 p0, .int .i64 p1, .int .i64 1, .int .i64 since, .bool false, .int .i64 fallen], .int .i64 0]) (by simp [results, Tryz.results158, go_sem, *]) rfl ?_
 refine ⟨rfl, ?_⟩
 go_grown
end Go.Proofs.YtnodagljaoonjaaGreatDoor.clk
/- The contract of clock.Press where it presses. -/
namespace Go.Proofs.YtnodagljaoonjaaGreatDoor.clk
open Go.ChangeShapes Go.WideShapes Go.ChangeAt Go.RowKit
set_option linter.unusedVariables false
set_option maxHeartbeats 8000000
set_option maxRecDepth 100000
set_option linter.unusedSimpArgs false
attribute [local go_sem ↓] Go.wp_at_zero Go.wp_at_succ
def mostB (x : Int) : Int := if 100000000000 < x then 100000000000 else x
def madeB (x : Int) : Int := if 400 < x then 400 else x
theorem wpList_assign_last {P : Program} {ops : Array Oper} {K : Act → World → Prop} {Q : Exit → Act → World → Prop} {op : Oper} {a : Act} {w : World} {v : Value} (hg : op.guard = none) (ho : op.op = .assign (.const v))
  (h : K (a.put op.dst v) w) : wpList P ops (Exit.then K Q) [op] a w := by
 refine wpList_plain hg fun K' hK => ?_
 unfold Oper.wp execOp
 simp only [ho, Act.eval, Sem.run_pure]
 exact hK _ _ h
theorem below_setCells {w w1 : World} {B b : Nat} (h : Below B w w1) (hb : B ≤ b) : ∀ (o : Nat) (vs : List Value), Below B w (w1.setCells b o vs) := by
 intro o vs
 induction vs generalizing w1 o with
 | nil => exact h
 | cons v r ih => exact ih (h.setCell hb _) _
theorem wpl_world1 {P : Program} {ops : Array Oper} {Q : Exit → Act → World → Prop} {rest : List Oper} {a : Act} {W : World} (h : ∀ w', w' = W → wpList P ops Q rest a w') : wpList P ops Q rest a W := h _ rfl
theorem Press_ok_0 (A : Option Addr) (n cap : Nat) (inc delay : Int) (ps : List (Int × Int)) (l0 l1 m0 m1 p0 p1 since fallen : Int) (now : Int) (w : World) (hn : n ≤ 9223372036854775807) (hp : PerAt w w.heap.size A n ps) (hr : RuleOk n inc delay ps) (hk : ClkOk n l0 l1 m0 m1 p0 p1 0 since fallen) (e0 : witB now since 100000000 = true) (hf : fallen < 0) (hu : usedZ false delay since now ≤ l0) :
  Calls Tryz.prog 125 #[.agg #[.slice A n cap, .int .i64 inc, .int .i64 delay], .agg #[.int .i64 l0, .int .i64 l1, .int .i64 m0, .int .i64 m1, .int .i64 p0, .int .i64 p1, .int .i64 0, .int .i64 since, .bool false, .int .i64 fallen], .int .i64 now] w (fun e w' => e = .returned (.tuple #[.agg #[.int .i64 (if (0 < (ps.getD p0.toNat (0, 0)).1 ∧ (ps.getD p0.toNat (0, 0)).1 ≤ (madeB (m0 + 1))) then mostB ((mostB (l0 - usedZ false delay since now + inc)) + (ps.getD (p0.toNat + 1) (0, 0)).2) else (mostB (l0 - usedZ false delay since now + inc))), .int .i64 l1, .int .i64 (if (0 < (ps.getD p0.toNat (0, 0)).1 ∧ (ps.getD p0.toNat (0, 0)).1 ≤ (madeB (m0 + 1))) then 0 else (madeB (m0 + 1))), .int .i64 m1, .int .i64 (if (0 < (ps.getD p0.toNat (0, 0)).1 ∧ (ps.getD p0.toNat (0, 0)).1 ≤ (madeB (m0 + 1))) then p0 + 1 else p0), .int .i64 p1, .int .i64 1, .int .i64 now, .bool false, .int .i64 fallen], .int .i64 0]) ∧ Below w.heap.size w w') := by
 have hnow := witB_iff.1 e0
 have hsn := hk.2.2.1
 have hdl := hr.2.2.1
 have hub := usedZ_b false delay since now (by omega) (by omega) (by omega) (by omega)
 have hlb : 0 ≤ l0 ∧ l0 ≤ 100000000000 := hk.2.2.2.2.2.1
 have hmb : 0 ≤ m0 ∧ m0 ≤ 400 := hk.2.2.2.2.1
 have hpb : 0 ≤ p0 ∧ p0 ≤ (n : Int) - 1 := hk.2.2.2.1
 have hib : 0 ≤ inc ∧ inc ≤ 100000000 := hr.2.1
 have hn5 : n ≤ 5 := hr.1.2
 obtain ⟨k, rfl⟩ : ∃ k : Nat, p0 = k := ⟨p0.toNat, by omega⟩
 rw [Int.toNat_natCast]
 have hkn : k < n := by omega
 obtain ⟨b, off, rfl, hbB, hpc⟩ := hp.2 (by omega)
 have q0 := (hpc k hkn).1
 have hq := hr.2.2.2 k hkn
 have hq1 : 0 < (ps.getD k (0, 0)).1 → k + 1 < n := by
  intro h
  unfold perOk at hq
  simp only [Bool.and_eq_true, beq_iff_eq] at hq
  have h2 := hq.2.2
  have h3 : ((ps.getD k (0, 0)).1 == 0) = false := by rw [beq_eq_false_iff_ne]; omega
  rw [h3] at h2
  have h4 := beq_eq_false_iff_ne.1 h2.symm
  omega
 have hqb : ∀ j, j < n → 1 ≤ (ps.getD j (0, 0)).2 ∧ (ps.getD j (0, 0)).2 ≤ 100000000 := by
  intro j hj
  have h := hr.2.2.2 j hj
  unfold perOk at h
  simp only [Bool.and_eq_true] at h
  exact witB_iff.1 h.2.1
 have Hq1 := Lib.hid hq1
 have Hqb := Lib.hid hqb
 have Hpc := Lib.hid hpc
 clear hq hq1 hqb hpc
 have H := Lib.hid hr
 have HC := Lib.hid hk
 clear hr hk
 go_enter Tryz.func125, Tryz.ntmps125
 go_upto_region 1 with (fail)
 refine opn3 fun w0 y0_ y1_ y2_ yb_ hs_ => ?_
 have HR := Lib.hid y0_
 have HX := Lib.hid y1_
 have HZ := Lib.hid y2_
 have HB := Lib.hid yb_
 clear hs_ y0_ y1_ y2_ yb_
 refine wp_region_lit ?_
 refine wpList_load_box (by rfl) 29 (.tmp 3) (by rfl) (w.heap.size) (by rfl) HR.out Tryz.underlying29 (by rfl) (by kernel_rfl) ?_
 refine wpList_load_box (by rfl) 44 (.tmp 4) (by rfl) (w.heap.size + 1) (by rfl) HX.out Tryz.underlying44 (by rfl) (by kernel_rfl) ?_
 go_wp2_with fail
 refine (ready_ok_0_false _ n cap inc delay ps l0 l1 m0 m1 k p1 since fallen now w0 hn (hp.below HB.out) H.out HC.out e0 hf hu).mono ?_
 rintro e w1 ⟨rfl, hb⟩
 have HB1 := Lib.hid (HB.out.trans (hb.mono HB.out.size))
 have HR1 := Lib.hid (HR.out.stays hb)
 have HX1 := Lib.hid (HX.out.stays hb)
 have HZ1 := Lib.hid (HZ.out.stays hb)
 clear hb HR HX HZ HB
 rename_i K1 q1 K2 q2
 refine q2 _ _ ?_
 clear q2 K2
 refine wpList_plain (by rfl) (fun K hK => ?_)
 go_simp
 refine hK _ _ ?_
 clear hK K
 try simp only [Act.put, sAr, sZe, sSu]
 refine wpList_plain (by rfl) (fun K hK => ?_)
 go_simp
 refine hK _ _ ?_
 clear hK K
 try simp only [Act.put, sAr, sZe, sSu]
 refine wpList_plain (by rfl) (fun K hK => ?_)
 go_simp
 refine hK _ _ ?_
 clear hK K
 try simp only [Act.put, sAr, sZe, sSu]
 refine wpList_store_box (vs := [.int .i64 l0, .int .i64 l1, .int .i64 m0, .int .i64 m1, .int .i64 k, .int .i64 p1, .int .i64 0, .int .i64 since, .bool false, .int .i64 fallen]) (by rfl) 44 (.tmp 4) (.tmp 16) (by rfl) (w.heap.size + 1) (by rfl) (by rfl) HX1.out rfl (by kernel_rfl) (by rfl) ?_
 have HX2 := Lib.hid (HX1.out.store (vs := [.int .i64 l0, .int .i64 l1, .int .i64 m0, .int .i64 m1, .int .i64 k, .int .i64 p1, .int .i64 0, .int .i64 since, .bool false, .int .i64 fallen]) rfl)
 have HB2 := Lib.hid (below_setCells HB1.out (Nat.le_succ _) 0 [.int .i64 l0, .int .i64 l1, .int .i64 m0, .int .i64 m1, .int .i64 k, .int .i64 p1, .int .i64 0, .int .i64 since, .bool false, .int .i64 fallen])
 have HR2 := Lib.hid (HR1.out.farAll (b' := w.heap.size + 1) (by omega) 0 [.int .i64 l0, .int .i64 l1, .int .i64 m0, .int .i64 m1, .int .i64 k, .int .i64 p1, .int .i64 0, .int .i64 since, .bool false, .int .i64 fallen])
 have HZ2 := Lib.hid (HZ1.out.farAll (b' := w.heap.size + 1) (by omega) 0 [.int .i64 l0, .int .i64 l1, .int .i64 m0, .int .i64 m1, .int .i64 k, .int .i64 p1, .int .i64 0, .int .i64 since, .bool false, .int .i64 fallen])
 refine wpl_world1 ?_
 intro w2 e2
 rw [← e2] at HX2 HB2 HR2 HZ2
 clear e2 HX1 HB1 HR1 HZ1
 have c6 := HX2.out.cell 6 rfl
 go_upto_region 5 with (fail)
 clear c6
 generalize w2 = wq at *
 have Rz := HR2.out.drew
 have Xz := HX2.out.drew
 have Zz := HZ2.out.drew
 have Lz : Below w.heap.size w wq.drew := below_drew' HB2.out
 have hmin : (if (100000000000 : Int) < IntKind.i64.wrap (IntKind.i64.wrap (l0 - usedZ false delay since now) + inc) then 100000000000 else IntKind.i64.wrap (IntKind.i64.wrap (l0 - usedZ false delay since now) + inc)) = mostB (l0 - usedZ false delay since now + inc) := by rw [IntWalk.i64_in (l0 - usedZ false delay since now) (by omega), IntWalk.i64_in _ (by omega)]; rfl
 have HMin := Lib.hid hmin
 clear hmin HR2 HX2 HZ2 HB2 H HC
 refine wp_region_noPanic ?_
 refine beginL (S := (fun w' => w'.cell? ⟨w.heap.size + 1, 0, none⟩ = some (.int .i64 l0) ∧ w'.cell? ⟨w.heap.size, 0, none⟩ = some (.slice (some ⟨b, off, none⟩) n cap) ∧ w'.cell? ⟨w.heap.size, 1, none⟩ = some (.int .i64 inc) ∧ w'.cell? ⟨w.heap.size, 2, none⟩ = some (.int .i64 delay) ∧ w'.rangeAt (w.heap.size + 1) 0 [.int .i64 l0, .int .i64 l1, .int .i64 m0, .int .i64 m1, .int .i64 k, .int .i64 p1, .int .i64 0, .int .i64 since, .bool false, .int .i64 fallen])) (L := [16]) (by kernel_rfl) ⟨Xz.cell 0 rfl, Rz.cell 0 rfl, Rz.cell 1 rfl, Rz.cell 2 rfl, Xz.range⟩ (fun hHeld => ?_)
 refine tkW 0 ?_
 refine tkW 1 ?_
 refine tkW 2 ?_
 refine tkL 5 ?_
 try simp only [Act.put, sAr, sZe, sSu]
 refine takeL (i := 6) (v := .agg #[.int .i64 l0, .int .i64 l1, .int .i64 m0, .int .i64 m1, .int .i64 k, .int .i64 p1, .int .i64 0, .int .i64 since, .bool false, .int .i64 fallen]) rfl (by kernel_rfl) (by kernel_rfl) (by kernel_rfl) (by kernel_rfl) rfl (by kernel_rfl) (by kernel_rfl) (fun _ _ _ h => h) (yieldsIf_load_mid (by rfl) 44 (.tmp 4) (by rfl) (w.heap.size + 1) 0 (by rfl) [.int .i64 l0, .int .i64 l1, .int .i64 m0, .int .i64 m1, .int .i64 k, .int .i64 p1, .int .i64 0, .int .i64 since, .bool false, .int .i64 fallen] _ (fun _ hw => hw.2.2.2.2) Tryz.underlying44 (by rfl) (by kernel_rfl)) (by assumption) ?_
 refine tkW 7 ?_
 refine tkW 10 ?_
 refine tkW 14 ?_
 refine tkW 3 ?_
 refine tkL 11 ?_
 refine tkL 4 ?_
 refine cnL 8 fun K hK => ?_
 go_simp
 refine (used_any (some ⟨b, off, none⟩) n cap inc delay l0 l1 m0 m1 k p1 0 since fallen false now _ (by omega) (by omega) (by omega) (by omega) (by omega) (by omega)).mono ?_
 rintro e w8 ⟨rfl, hw8⟩
 have hbb : Below wq.drew.heap.size wq.drew w8 := by rw [← hw8]; exact ((Below.refl _ _).alloc (Nat.le_refl _) _).alloc (by simp) _
 have X8 := Xz.stays hbb
 have R8 := Rz.stays hbb
 have Z8 := Zz.stays hbb
 have L8 := below_trans Lz hbb Lz.size
 clear hbb hw8
 refine hK.out _ _ ⟨X8.cell 0 rfl, R8.cell 0 rfl, R8.cell 1 rfl, R8.cell 2 rfl, X8.range⟩ (fun hHeld => ?_)
 clear hK K
 refine tkW 9 ?_
 refine tkW 12 ?_
 refine tkW 13 ?_
 refine tkW 15 ?_
 refine ltL 16 fun K hK => ?_
 have dd := X8.cell 0 rfl
 have df := X8.frozen 0
 go_simp
 refine K_world ?_
 intro w16 e16
 rw [HMin.out] at e16
 have HX3 := Lib.hid (X8.set 0 (.int .i64 (mostB (l0 - usedZ false delay since now + inc))))
 have HR3 := Lib.hid (R8.far ⟨w.heap.size + 1, 0, none⟩ (.int .i64 (mostB (l0 - usedZ false delay since now + inc))) (by show w.heap.size ≠ w.heap.size + 1; omega))
 have HZ3 := Lib.hid (Z8.far ⟨w.heap.size + 1, 0, none⟩ (.int .i64 (mostB (l0 - usedZ false delay since now + inc))) (by show w.heap.size + 1 + 1 ≠ w.heap.size + 1; omega))
 have HL3 := Lib.hid (L8.setCell (p := ⟨w.heap.size + 1, 0, none⟩) (Nat.le_succ _) (.int .i64 (mostB (l0 - usedZ false delay since now + inc))))
 rw [← e16] at HX3 HR3 HZ3 HL3
 clear e16 dd df
 refine hK.out _ _ ?_
 clear hK K
 refine dnN ?_
 clear hHeld
 generalize w16 = w3 at *
 have hLb : 0 ≤ mostB (l0 - usedZ false delay since now + inc) ∧ mostB (l0 - usedZ false delay since now + inc) ≤ 100000000000 := by unfold mostB; split <;> omega
 have hMb : 0 ≤ madeB (m0 + 1) ∧ madeB (m0 + 1) ≤ 400 := by unfold madeB; split <;> omega
 have hmade : (if (400 : Int) < m0 + 1 then 400 else m0 + 1) = madeB (m0 + 1) := rfl
 have HX4 : Hid (Box w3 (w.heap.size + 1) [.int .i64 ((mostB (l0 - usedZ false delay since now + inc))), .int .i64 l1, .int .i64 m0, .int .i64 m1, .int .i64 k, .int .i64 p1, .int .i64 0, .int .i64 since, .bool false, .int .i64 fallen] 44) := Lib.hid HX3.out
 clear HX3
 generalize KM : madeB (m0 + 1) = M at *
 generalize KL : mostB (l0 - usedZ false delay since now + inc) = L at *
 generalize KX : (ps.getD k (0, 0)).1 = X at *
 have HM := Lib.hid KM
 have HL := Lib.hid KL
 have HXx := Lib.hid KX
 clear KM KL KX
 have cm := HX4.out.cell 2 rfl
 have fm := HX4.out.frozen 2
 have hz : w.heap.size + 1 < w3.heap.size := HX4.out.lt
 have HR4 := HR3
 have HZ4 := HZ3
 have HL4 := HL3
 clear HR3 HZ3 HL3 HMin
 have r0 := HR4.out.cell 0 rfl
 have cp := HX4.out.cell 4 rfl
 have cq : w3.cell? ⟨b, off + k * 2, none⟩ = some (.int .i64 X) := HXx.out ▸ ((bcell HL4.out).1 _ _ hbB).trans (Hpc.out k hkn).1
 have hkz : (k : Int) < (n : Int) := by omega
 have hb3 : b < w3.heap.size := Nat.lt_of_lt_of_le hbB HL4.out.size
 go_upto_region 7 with (fail)
 clear cm fm hmade r0 cp cq
 have HX5 : Hid (Box (w3.setCell ⟨w.heap.size + 1, 2, none⟩ (.int .i64 M)) (w.heap.size + 1) [.int .i64 L, .int .i64 l1, .int .i64 M, .int .i64 m1, .int .i64 k, .int .i64 p1, .int .i64 0, .int .i64 since, .bool false, .int .i64 fallen] 44) := Lib.hid (HX4.out.set 2 _)
 have HR5 := Lib.hid (HR4.out.far ⟨w.heap.size + 1, 2, none⟩ (.int .i64 M) (by show w.heap.size ≠ w.heap.size + 1; omega))
 have HZ5 := Lib.hid (HZ4.out.far ⟨w.heap.size + 1, 2, none⟩ (.int .i64 M) (by show w.heap.size + 1 + 1 ≠ w.heap.size + 1; omega))
 have HL5 := Lib.hid (HL4.out.setCell (p := ⟨w.heap.size + 1, 2, none⟩) (Nat.le_succ _) (.int .i64 M))
 generalize w3.setCell ⟨w.heap.size + 1, 2, none⟩ (.int .i64 M) = w5 at *
 clear HX4 HR4 HZ4 HL4 hz hb3
 have r0 := HR5.out.cell 0 rfl
 have cp := HX5.out.cell 4 rfl
 have cq : w5.cell? ⟨b, off + k * 2, none⟩ = some (.int .i64 X) := HXx.out ▸ ((bcell HL5.out).1 _ _ hbB).trans (Hpc.out k hkn).1
 go_quiet (fail)
 have HX6 := Lib.hid (HX5.out.drewN nq)
 have HR6 := Lib.hid (HR5.out.drewN nq)
 have HZ6 := Lib.hid (HZ5.out.drewN nq)
 have HL6 := Lib.hid (below_drewN HL5.out nq)
 generalize w5.drewN nq = w6 at *
 clear HX5 HR5 HZ5 HL5 r0 cp cq
 by_cases hc : 0 < X ∧ X ≤ M
 ·have HC := Lib.hid hc
  obtain ⟨h1, h2⟩ := hc
  have hkn1 : k + 1 < n := Hq1.out h1
  have hY := Hqb.out (k + 1) hkn1
  generalize KY : (ps.getD (k + 1) (0, 0)).2 = Y at *
  have HY := Lib.hid KY
  clear KY
  have hkz1 : (k : Int) + 1 < (n : Int) := by omega
  have hk1a : (0 : Int) ≤ (k : Int) + 1 := by omega
  have cm := HX6.out.cell 2 rfl
  have fm := HX6.out.frozen 2
  have cp := HX6.out.cell 4 rfl
  have fp := HX6.out.frozen 4
  go_upto_region 11 with (fail)
  clear cm fm cp fp
  have HX7 : Hid (Box ((w6.setCell ⟨w.heap.size + 1, 2, none⟩ (.int .i64 0)).setCell ⟨w.heap.size + 1, 4, none⟩ (.int .i64 (k + 1))) (w.heap.size + 1) [.int .i64 L, .int .i64 l1, .int .i64 0, .int .i64 m1, .int .i64 (k + 1), .int .i64 p1, .int .i64 0, .int .i64 since, .bool false, .int .i64 fallen] 44) := Lib.hid ((HX6.out.set 2 _).set 4 _)
  have HR7 := Lib.hid ((HR6.out.far ⟨w.heap.size + 1, 2, none⟩ (.int .i64 0) (by show w.heap.size ≠ w.heap.size + 1; omega)).far ⟨w.heap.size + 1, 4, none⟩ (.int .i64 (k + 1)) (by show w.heap.size ≠ w.heap.size + 1; omega))
  have HZ7 := Lib.hid ((HZ6.out.far ⟨w.heap.size + 1, 2, none⟩ (.int .i64 0) (by show w.heap.size + 1 + 1 ≠ w.heap.size + 1; omega)).far ⟨w.heap.size + 1, 4, none⟩ (.int .i64 (k + 1)) (by show w.heap.size + 1 + 1 ≠ w.heap.size + 1; omega))
  have HL7 := Lib.hid ((HL6.out.setCell (p := ⟨w.heap.size + 1, 2, none⟩) (Nat.le_succ _) (.int .i64 0)).setCell (p := ⟨w.heap.size + 1, 4, none⟩) (Nat.le_succ _) (.int .i64 (k + 1)))
  generalize (w6.setCell ⟨w.heap.size + 1, 2, none⟩ (.int .i64 0)).setCell ⟨w.heap.size + 1, 4, none⟩ (.int .i64 (k + 1)) = w7 at *
  generalize w7 = wq at *
  have Rz := HR7.out.drew
  have Xz := HX7.out.drew
  have Zz := HZ7.out.drew
  have Lz : Below w.heap.size w wq.drew := below_drew' HL7.out
  have Yz : wq.drew.cell? ⟨b, off + (k + 1) * 2 + 1, none⟩ = some (.int .i64 Y) := HY.out ▸ ((bcell Lz).1 _ _ hbB).trans (Hpc.out (k + 1) hkn1).2
  have hmin2 : (if (100000000000 : Int) < IntKind.i64.wrap (L + Y) then 100000000000 else IntKind.i64.wrap (L + Y)) = mostB (L + Y) := by rw [IntWalk.i64_in (L + Y) (by omega)]; rfl
  have HMin2 := Lib.hid hmin2
  clear hmin2 HR6 HX6 HZ6 HL6 HR7 HX7 HZ7 HL7
  refine wp_region_noPanic ?_
  refine beginL (S := (fun w' => w'.cell? ⟨w.heap.size + 1, 0, none⟩ = some (.int .i64 L) ∧ w'.cell? ⟨w.heap.size, 0, none⟩ = some (.slice (some ⟨b, off, none⟩) n cap) ∧ w'.cell? ⟨w.heap.size + 1, 4, none⟩ = some (.int .i64 (k + 1)) ∧ w'.cell? ⟨b, off + (k + 1) * 2 + 1, none⟩ = some (.int .i64 Y))) (L := [18]) (by kernel_rfl) ⟨Xz.cell 0 rfl, Rz.cell 0 rfl, Xz.cell 4 rfl, Yz⟩ (fun hHeld => ?_)
  refine tkW 0 ?_
  refine tkW 1 ?_
  refine tkW 2 ?_
  refine tkW 5 ?_
  refine tkW 7 ?_
  refine tkW 8 ?_
  refine tkW 16 ?_
  refine tkW 3 ?_
  refine tkL 6 ?_
  refine tkW 9 ?_
  refine tkL 4 ?_
  refine tkL 10 ?_
  refine tkW 11 ?_
  refine tkW 12 ?_
  refine tkL 13 ?_
  refine tkW 14 ?_
  refine tkW 15 ?_
  refine tkW 17 ?_
  refine ltL 18 fun K hK => ?_
  have dd := Xz.cell 0 rfl
  have df := Xz.frozen 0
  go_simp
  refine K_world ?_
  intro w16 e16
  rw [HMin2.out] at e16
  clear dd df
  have HX10 : Hid (Box w16 (w.heap.size + 1) [.int .i64 ((mostB (L + Y))), .int .i64 l1, .int .i64 0, .int .i64 m1, .int .i64 (k + 1), .int .i64 p1, .int .i64 0, .int .i64 since, .bool false, .int .i64 fallen] 44) := Lib.hid (e16 ▸ Xz.set 0 (.int .i64 (mostB (L + Y))))
  have HZ10 : Hid (Box w16 (w.heap.size + 1 + 1) [.int .i64 0, .int .i64 0, .int .i64 0, .int .i64 0, .int .i64 0, .int .i64 0, .int .i64 0, .int .i64 0, .bool false, .int .i64 0] 44) := Lib.hid (e16 ▸ Zz.far ⟨w.heap.size + 1, 0, none⟩ (.int .i64 (mostB (L + Y))) (by show w.heap.size + 1 + 1 ≠ w.heap.size + 1; omega))
  have HL10 : Hid (Below w.heap.size w w16) := Lib.hid (e16 ▸ Lz.setCell (p := ⟨w.heap.size + 1, 0, none⟩) (Nat.le_succ _) (.int .i64 (mostB (L + Y))))
  clear e16
  refine hK.out _ _ ?_
  clear hK K
  refine dnN ?_
  clear hHeld Xz Rz Zz Lz Yz
  generalize w16 = w10 at *
  have f6 := HX10.out.frozen 6
  have f7 := HX10.out.frozen 7
  have c2 := HX10.out.cell 2 rfl
  have c6 := HX10.out.cell 6 rfl
  have c7 := HX10.out.cell 7 rfl
  go_upto_region 13 with (fail)
  clear f6 f7 c2 c6 c7
  have HX8 : Hid (Box ((w10.setCell ⟨w.heap.size + 1, 6, none⟩ (.int .i64 1)).setCell ⟨w.heap.size + 1, 7, none⟩ (.int .i64 now)) (w.heap.size + 1) [.int .i64 ((mostB (L + Y))), .int .i64 l1, .int .i64 0, .int .i64 m1, .int .i64 (k + 1), .int .i64 p1, .int .i64 1, .int .i64 now, .bool false, .int .i64 fallen] 44) := Lib.hid ((HX10.out.set 6 _).set 7 _)
  have HZ8 := Lib.hid ((HZ10.out.far ⟨w.heap.size + 1, 6, none⟩ (.int .i64 1) (by show w.heap.size + 1 + 1 ≠ w.heap.size + 1; omega)).far ⟨w.heap.size + 1, 7, none⟩ (.int .i64 now) (by show w.heap.size + 1 + 1 ≠ w.heap.size + 1; omega))
  have HL8 := Lib.hid ((HL10.out.setCell (p := ⟨w.heap.size + 1, 6, none⟩) (Nat.le_succ _) (.int .i64 1)).setCell (p := ⟨w.heap.size + 1, 7, none⟩) (Nat.le_succ _) (.int .i64 now))
  generalize (w10.setCell ⟨w.heap.size + 1, 6, none⟩ (.int .i64 1)).setCell ⟨w.heap.size + 1, 7, none⟩ (.int .i64 now) = w8 at *
  refine wp_region_lit ?_
  refine wpList_load_box (by rfl) 44 (.tmp 4) (by rfl) (w.heap.size + 1) (by rfl) HX8.out Tryz.underlying44 (by rfl) (by kernel_rfl) ?_
  refine wpList_store_box (vs := [.int .i64 ((mostB (L + Y))), .int .i64 l1, .int .i64 0, .int .i64 m1, .int .i64 (k + 1), .int .i64 p1, .int .i64 1, .int .i64 now, .bool false, .int .i64 fallen]) (by rfl) 44 (.tmp 6) (.tmp 101) (by rfl) (w.heap.size + 1 + 1) (by rfl) (by rfl) HZ8.out rfl (by kernel_rfl) (by rfl) ?_
  have HZ9 := Lib.hid (HZ8.out.store (vs := [.int .i64 ((mostB (L + Y))), .int .i64 l1, .int .i64 0, .int .i64 m1, .int .i64 (k + 1), .int .i64 p1, .int .i64 1, .int .i64 now, .bool false, .int .i64 fallen]) rfl)
  have HL9 := Lib.hid (below_setCells HL8.out (show w.heap.size ≤ w.heap.size + 1 + 1 by omega) 0 [.int .i64 ((mostB (L + Y))), .int .i64 l1, .int .i64 0, .int .i64 m1, .int .i64 (k + 1), .int .i64 p1, .int .i64 1, .int .i64 now, .bool false, .int .i64 fallen])
  refine wpl_world1 ?_
  intro w9 e9
  rw [← e9] at HZ9 HL9
  clear e9 HX8 HZ8 HL8
  rename_i K hKx
  refine wpList_assign_last (by rfl) (by rfl) (hKx _ _ (wp_ret ?_))
  clear hKx K
  exact bodyPost_ret (results_box (v := .int .i64 0) rfl (by rfl) (by rfl) HZ9.out Tryz.underlying44 (by rfl) (by kernel_rfl)) rfl ⟨by rw [HM.out, HL.out, HXx.out, if_pos HC.out, if_pos HC.out, if_pos HC.out, HY.out], HL9.out⟩
 ·have HC := Lib.hid hc
  have hXs : X ≤ 0 ∨ (0 < X ∧ M < X) := by omega
  clear hc
  rcases hXs with h1 | ⟨h1, h2⟩
  ·have f6 := HX6.out.frozen 6
   have f7 := HX6.out.frozen 7
   have c2 := HX6.out.cell 2 rfl
   have c6 := HX6.out.cell 6 rfl
   have c7 := HX6.out.cell 7 rfl
   go_upto_region 13 with (fail)
   clear f6 f7 c2 c6 c7
   have HX8 : Hid (Box ((w6.setCell ⟨w.heap.size + 1, 6, none⟩ (.int .i64 1)).setCell ⟨w.heap.size + 1, 7, none⟩ (.int .i64 now)) (w.heap.size + 1) [.int .i64 L, .int .i64 l1, .int .i64 M, .int .i64 m1, .int .i64 k, .int .i64 p1, .int .i64 1, .int .i64 now, .bool false, .int .i64 fallen] 44) := Lib.hid ((HX6.out.set 6 _).set 7 _)
   have HZ8 := Lib.hid ((HZ6.out.far ⟨w.heap.size + 1, 6, none⟩ (.int .i64 1) (by show w.heap.size + 1 + 1 ≠ w.heap.size + 1; omega)).far ⟨w.heap.size + 1, 7, none⟩ (.int .i64 now) (by show w.heap.size + 1 + 1 ≠ w.heap.size + 1; omega))
   have HL8 := Lib.hid ((HL6.out.setCell (p := ⟨w.heap.size + 1, 6, none⟩) (Nat.le_succ _) (.int .i64 1)).setCell (p := ⟨w.heap.size + 1, 7, none⟩) (Nat.le_succ _) (.int .i64 now))
   generalize (w6.setCell ⟨w.heap.size + 1, 6, none⟩ (.int .i64 1)).setCell ⟨w.heap.size + 1, 7, none⟩ (.int .i64 now) = w8 at *
   refine wp_region_lit ?_
   refine wpList_load_box (by rfl) 44 (.tmp 4) (by rfl) (w.heap.size + 1) (by rfl) HX8.out Tryz.underlying44 (by rfl) (by kernel_rfl) ?_
   refine wpList_store_box (vs := [.int .i64 L, .int .i64 l1, .int .i64 M, .int .i64 m1, .int .i64 k, .int .i64 p1, .int .i64 1, .int .i64 now, .bool false, .int .i64 fallen]) (by rfl) 44 (.tmp 6) (.tmp 101) (by rfl) (w.heap.size + 1 + 1) (by rfl) (by rfl) HZ8.out rfl (by kernel_rfl) (by rfl) ?_
   have HZ9 := Lib.hid (HZ8.out.store (vs := [.int .i64 L, .int .i64 l1, .int .i64 M, .int .i64 m1, .int .i64 k, .int .i64 p1, .int .i64 1, .int .i64 now, .bool false, .int .i64 fallen]) rfl)
   have HL9 := Lib.hid (below_setCells HL8.out (show w.heap.size ≤ w.heap.size + 1 + 1 by omega) 0 [.int .i64 L, .int .i64 l1, .int .i64 M, .int .i64 m1, .int .i64 k, .int .i64 p1, .int .i64 1, .int .i64 now, .bool false, .int .i64 fallen])
   refine wpl_world1 ?_
   intro w9 e9
   rw [← e9] at HZ9 HL9
   clear e9 HX8 HZ8 HL8
   rename_i K hKx
   refine wpList_assign_last (by rfl) (by rfl) (hKx _ _ (wp_ret ?_))
   clear hKx K
   exact bodyPost_ret (results_box (v := .int .i64 0) rfl (by rfl) (by rfl) HZ9.out Tryz.underlying44 (by rfl) (by kernel_rfl)) rfl ⟨by rw [HM.out, HL.out, HXx.out, if_neg HC.out, if_neg HC.out, if_neg HC.out], HL9.out⟩
  ·have f6 := HX6.out.frozen 6
   have f7 := HX6.out.frozen 7
   have c2 := HX6.out.cell 2 rfl
   have c6 := HX6.out.cell 6 rfl
   have c7 := HX6.out.cell 7 rfl
   go_upto_region 13 with (fail)
   clear f6 f7 c2 c6 c7
   have HX8 : Hid (Box ((w6.setCell ⟨w.heap.size + 1, 6, none⟩ (.int .i64 1)).setCell ⟨w.heap.size + 1, 7, none⟩ (.int .i64 now)) (w.heap.size + 1) [.int .i64 L, .int .i64 l1, .int .i64 M, .int .i64 m1, .int .i64 k, .int .i64 p1, .int .i64 1, .int .i64 now, .bool false, .int .i64 fallen] 44) := Lib.hid ((HX6.out.set 6 _).set 7 _)
   have HZ8 := Lib.hid ((HZ6.out.far ⟨w.heap.size + 1, 6, none⟩ (.int .i64 1) (by show w.heap.size + 1 + 1 ≠ w.heap.size + 1; omega)).far ⟨w.heap.size + 1, 7, none⟩ (.int .i64 now) (by show w.heap.size + 1 + 1 ≠ w.heap.size + 1; omega))
   have HL8 := Lib.hid ((HL6.out.setCell (p := ⟨w.heap.size + 1, 6, none⟩) (Nat.le_succ _) (.int .i64 1)).setCell (p := ⟨w.heap.size + 1, 7, none⟩) (Nat.le_succ _) (.int .i64 now))
   generalize (w6.setCell ⟨w.heap.size + 1, 6, none⟩ (.int .i64 1)).setCell ⟨w.heap.size + 1, 7, none⟩ (.int .i64 now) = w8 at *
   refine wp_region_lit ?_
   refine wpList_load_box (by rfl) 44 (.tmp 4) (by rfl) (w.heap.size + 1) (by rfl) HX8.out Tryz.underlying44 (by rfl) (by kernel_rfl) ?_
   refine wpList_store_box (vs := [.int .i64 L, .int .i64 l1, .int .i64 M, .int .i64 m1, .int .i64 k, .int .i64 p1, .int .i64 1, .int .i64 now, .bool false, .int .i64 fallen]) (by rfl) 44 (.tmp 6) (.tmp 101) (by rfl) (w.heap.size + 1 + 1) (by rfl) (by rfl) HZ8.out rfl (by kernel_rfl) (by rfl) ?_
   have HZ9 := Lib.hid (HZ8.out.store (vs := [.int .i64 L, .int .i64 l1, .int .i64 M, .int .i64 m1, .int .i64 k, .int .i64 p1, .int .i64 1, .int .i64 now, .bool false, .int .i64 fallen]) rfl)
   have HL9 := Lib.hid (below_setCells HL8.out (show w.heap.size ≤ w.heap.size + 1 + 1 by omega) 0 [.int .i64 L, .int .i64 l1, .int .i64 M, .int .i64 m1, .int .i64 k, .int .i64 p1, .int .i64 1, .int .i64 now, .bool false, .int .i64 fallen])
   refine wpl_world1 ?_
   intro w9 e9
   rw [← e9] at HZ9 HL9
   clear e9 HX8 HZ8 HL8
   rename_i K hKx
   refine wpList_assign_last (by rfl) (by rfl) (hKx _ _ (wp_ret ?_))
   clear hKx K
   exact bodyPost_ret (results_box (v := .int .i64 0) rfl (by rfl) (by rfl) HZ9.out Tryz.underlying44 (by rfl) (by kernel_rfl)) rfl ⟨by rw [HM.out, HL.out, HXx.out, if_neg HC.out, if_neg HC.out, if_neg HC.out], HL9.out⟩
theorem Press_ok_1 (A : Option Addr) (n cap : Nat) (inc delay : Int) (ps : List (Int × Int)) (l0 l1 m0 m1 p0 p1 since fallen : Int) (now : Int) (w : World) (hn : n ≤ 9223372036854775807) (hp : PerAt w w.heap.size A n ps) (hr : RuleOk n inc delay ps) (hk : ClkOk n l0 l1 m0 m1 p0 p1 1 since fallen) (e0 : witB now since 100000000 = true) (hf : fallen < 0) (hu : usedZ false delay since now ≤ l1) :
  Calls Tryz.prog 125 #[.agg #[.slice A n cap, .int .i64 inc, .int .i64 delay], .agg #[.int .i64 l0, .int .i64 l1, .int .i64 m0, .int .i64 m1, .int .i64 p0, .int .i64 p1, .int .i64 1, .int .i64 since, .bool false, .int .i64 fallen], .int .i64 now] w (fun e w' => e = .returned (.tuple #[.agg #[.int .i64 l0, .int .i64 (if (0 < (ps.getD p1.toNat (0, 0)).1 ∧ (ps.getD p1.toNat (0, 0)).1 ≤ (madeB (m1 + 1))) then mostB ((mostB (l1 - usedZ false delay since now + inc)) + (ps.getD (p1.toNat + 1) (0, 0)).2) else (mostB (l1 - usedZ false delay since now + inc))), .int .i64 m0, .int .i64 (if (0 < (ps.getD p1.toNat (0, 0)).1 ∧ (ps.getD p1.toNat (0, 0)).1 ≤ (madeB (m1 + 1))) then 0 else (madeB (m1 + 1))), .int .i64 p0, .int .i64 (if (0 < (ps.getD p1.toNat (0, 0)).1 ∧ (ps.getD p1.toNat (0, 0)).1 ≤ (madeB (m1 + 1))) then p1 + 1 else p1), .int .i64 0, .int .i64 now, .bool false, .int .i64 fallen], .int .i64 0]) ∧ Below w.heap.size w w') := by
 have hnow := witB_iff.1 e0
 have hsn := hk.2.2.1
 have hdl := hr.2.2.1
 have hub := usedZ_b false delay since now (by omega) (by omega) (by omega) (by omega)
 have hlb : 0 ≤ l1 ∧ l1 ≤ 100000000000 := hk.2.2.2.2.2.2.2.2
 have hmb : 0 ≤ m1 ∧ m1 ≤ 400 := hk.2.2.2.2.2.2.2.1
 have hpb : 0 ≤ p1 ∧ p1 ≤ (n : Int) - 1 := hk.2.2.2.2.2.2.1
 have hib : 0 ≤ inc ∧ inc ≤ 100000000 := hr.2.1
 have hn5 : n ≤ 5 := hr.1.2
 obtain ⟨k, rfl⟩ : ∃ k : Nat, p1 = k := ⟨p1.toNat, by omega⟩
 rw [Int.toNat_natCast]
 have hkn : k < n := by omega
 obtain ⟨b, off, rfl, hbB, hpc⟩ := hp.2 (by omega)
 have q0 := (hpc k hkn).1
 have hq := hr.2.2.2 k hkn
 have hq1 : 0 < (ps.getD k (0, 0)).1 → k + 1 < n := by
  intro h
  unfold perOk at hq
  simp only [Bool.and_eq_true, beq_iff_eq] at hq
  have h2 := hq.2.2
  have h3 : ((ps.getD k (0, 0)).1 == 0) = false := by rw [beq_eq_false_iff_ne]; omega
  rw [h3] at h2
  have h4 := beq_eq_false_iff_ne.1 h2.symm
  omega
 have hqb : ∀ j, j < n → 1 ≤ (ps.getD j (0, 0)).2 ∧ (ps.getD j (0, 0)).2 ≤ 100000000 := by
  intro j hj
  have h := hr.2.2.2 j hj
  unfold perOk at h
  simp only [Bool.and_eq_true] at h
  exact witB_iff.1 h.2.1
 have Hq1 := Lib.hid hq1
 have Hqb := Lib.hid hqb
 have Hpc := Lib.hid hpc
 clear hq hq1 hqb hpc
 have H := Lib.hid hr
 have HC := Lib.hid hk
 clear hr hk
 go_enter Tryz.func125, Tryz.ntmps125
 go_upto_region 1 with (fail)
 refine opn3 fun w0 y0_ y1_ y2_ yb_ hs_ => ?_
 have HR := Lib.hid y0_
 have HX := Lib.hid y1_
 have HZ := Lib.hid y2_
 have HB := Lib.hid yb_
 clear hs_ y0_ y1_ y2_ yb_
 refine wp_region_lit ?_
 refine wpList_load_box (by rfl) 29 (.tmp 3) (by rfl) (w.heap.size) (by rfl) HR.out Tryz.underlying29 (by rfl) (by kernel_rfl) ?_
 refine wpList_load_box (by rfl) 44 (.tmp 4) (by rfl) (w.heap.size + 1) (by rfl) HX.out Tryz.underlying44 (by rfl) (by kernel_rfl) ?_
 go_wp2_with fail
 refine (ready_ok_1_false _ n cap inc delay ps l0 l1 m0 m1 p0 k since fallen now w0 hn (hp.below HB.out) H.out HC.out e0 hf hu).mono ?_
 rintro e w1 ⟨rfl, hb⟩
 have HB1 := Lib.hid (HB.out.trans (hb.mono HB.out.size))
 have HR1 := Lib.hid (HR.out.stays hb)
 have HX1 := Lib.hid (HX.out.stays hb)
 have HZ1 := Lib.hid (HZ.out.stays hb)
 clear hb HR HX HZ HB
 rename_i K1 q1 K2 q2
 refine q2 _ _ ?_
 clear q2 K2
 refine wpList_plain (by rfl) (fun K hK => ?_)
 go_simp
 refine hK _ _ ?_
 clear hK K
 try simp only [Act.put, sAr, sZe, sSu]
 refine wpList_plain (by rfl) (fun K hK => ?_)
 go_simp
 refine hK _ _ ?_
 clear hK K
 try simp only [Act.put, sAr, sZe, sSu]
 refine wpList_plain (by rfl) (fun K hK => ?_)
 go_simp
 refine hK _ _ ?_
 clear hK K
 try simp only [Act.put, sAr, sZe, sSu]
 refine wpList_store_box (vs := [.int .i64 l0, .int .i64 l1, .int .i64 m0, .int .i64 m1, .int .i64 p0, .int .i64 k, .int .i64 1, .int .i64 since, .bool false, .int .i64 fallen]) (by rfl) 44 (.tmp 4) (.tmp 16) (by rfl) (w.heap.size + 1) (by rfl) (by rfl) HX1.out rfl (by kernel_rfl) (by rfl) ?_
 have HX2 := Lib.hid (HX1.out.store (vs := [.int .i64 l0, .int .i64 l1, .int .i64 m0, .int .i64 m1, .int .i64 p0, .int .i64 k, .int .i64 1, .int .i64 since, .bool false, .int .i64 fallen]) rfl)
 have HB2 := Lib.hid (below_setCells HB1.out (Nat.le_succ _) 0 [.int .i64 l0, .int .i64 l1, .int .i64 m0, .int .i64 m1, .int .i64 p0, .int .i64 k, .int .i64 1, .int .i64 since, .bool false, .int .i64 fallen])
 have HR2 := Lib.hid (HR1.out.farAll (b' := w.heap.size + 1) (by omega) 0 [.int .i64 l0, .int .i64 l1, .int .i64 m0, .int .i64 m1, .int .i64 p0, .int .i64 k, .int .i64 1, .int .i64 since, .bool false, .int .i64 fallen])
 have HZ2 := Lib.hid (HZ1.out.farAll (b' := w.heap.size + 1) (by omega) 0 [.int .i64 l0, .int .i64 l1, .int .i64 m0, .int .i64 m1, .int .i64 p0, .int .i64 k, .int .i64 1, .int .i64 since, .bool false, .int .i64 fallen])
 refine wpl_world1 ?_
 intro w2 e2
 rw [← e2] at HX2 HB2 HR2 HZ2
 clear e2 HX1 HB1 HR1 HZ1
 have c6 := HX2.out.cell 6 rfl
 go_upto_region 5 with (fail)
 clear c6
 generalize w2 = wq at *
 have Rz := HR2.out.drew
 have Xz := HX2.out.drew
 have Zz := HZ2.out.drew
 have Lz : Below w.heap.size w wq.drew := below_drew' HB2.out
 have hmin : (if (100000000000 : Int) < IntKind.i64.wrap (IntKind.i64.wrap (l1 - usedZ false delay since now) + inc) then 100000000000 else IntKind.i64.wrap (IntKind.i64.wrap (l1 - usedZ false delay since now) + inc)) = mostB (l1 - usedZ false delay since now + inc) := by rw [IntWalk.i64_in (l1 - usedZ false delay since now) (by omega), IntWalk.i64_in _ (by omega)]; rfl
 have HMin := Lib.hid hmin
 clear hmin HR2 HX2 HZ2 HB2 H HC
 refine wp_region_noPanic ?_
 refine beginL (S := (fun w' => w'.cell? ⟨w.heap.size + 1, 1, none⟩ = some (.int .i64 l1) ∧ w'.cell? ⟨w.heap.size, 0, none⟩ = some (.slice (some ⟨b, off, none⟩) n cap) ∧ w'.cell? ⟨w.heap.size, 1, none⟩ = some (.int .i64 inc) ∧ w'.cell? ⟨w.heap.size, 2, none⟩ = some (.int .i64 delay) ∧ w'.rangeAt (w.heap.size + 1) 0 [.int .i64 l0, .int .i64 l1, .int .i64 m0, .int .i64 m1, .int .i64 p0, .int .i64 k, .int .i64 1, .int .i64 since, .bool false, .int .i64 fallen])) (L := [16]) (by kernel_rfl) ⟨Xz.cell 1 rfl, Rz.cell 0 rfl, Rz.cell 1 rfl, Rz.cell 2 rfl, Xz.range⟩ (fun hHeld => ?_)
 refine tkW 0 ?_
 refine tkW 1 ?_
 refine tkW 2 ?_
 refine tkL 5 ?_
 try simp only [Act.put, sAr, sZe, sSu]
 refine takeL (i := 6) (v := .agg #[.int .i64 l0, .int .i64 l1, .int .i64 m0, .int .i64 m1, .int .i64 p0, .int .i64 k, .int .i64 1, .int .i64 since, .bool false, .int .i64 fallen]) rfl (by kernel_rfl) (by kernel_rfl) (by kernel_rfl) (by kernel_rfl) rfl (by kernel_rfl) (by kernel_rfl) (fun _ _ _ h => h) (yieldsIf_load_mid (by rfl) 44 (.tmp 4) (by rfl) (w.heap.size + 1) 0 (by rfl) [.int .i64 l0, .int .i64 l1, .int .i64 m0, .int .i64 m1, .int .i64 p0, .int .i64 k, .int .i64 1, .int .i64 since, .bool false, .int .i64 fallen] _ (fun _ hw => hw.2.2.2.2) Tryz.underlying44 (by rfl) (by kernel_rfl)) (by assumption) ?_
 refine tkW 7 ?_
 refine tkW 10 ?_
 refine tkW 14 ?_
 refine tkW 3 ?_
 refine tkL 11 ?_
 refine tkL 4 ?_
 refine cnL 8 fun K hK => ?_
 go_simp
 refine (used_any (some ⟨b, off, none⟩) n cap inc delay l0 l1 m0 m1 p0 k 1 since fallen false now _ (by omega) (by omega) (by omega) (by omega) (by omega) (by omega)).mono ?_
 rintro e w8 ⟨rfl, hw8⟩
 have hbb : Below wq.drew.heap.size wq.drew w8 := by rw [← hw8]; exact ((Below.refl _ _).alloc (Nat.le_refl _) _).alloc (by simp) _
 have X8 := Xz.stays hbb
 have R8 := Rz.stays hbb
 have Z8 := Zz.stays hbb
 have L8 := below_trans Lz hbb Lz.size
 clear hbb hw8
 refine hK.out _ _ ⟨X8.cell 1 rfl, R8.cell 0 rfl, R8.cell 1 rfl, R8.cell 2 rfl, X8.range⟩ (fun hHeld => ?_)
 clear hK K
 refine tkW 9 ?_
 refine tkW 12 ?_
 refine tkW 13 ?_
 refine tkW 15 ?_
 refine ltL 16 fun K hK => ?_
 have dd := X8.cell 1 rfl
 have df := X8.frozen 1
 go_simp
 refine K_world ?_
 intro w16 e16
 rw [HMin.out] at e16
 have HX3 := Lib.hid (X8.set 1 (.int .i64 (mostB (l1 - usedZ false delay since now + inc))))
 have HR3 := Lib.hid (R8.far ⟨w.heap.size + 1, 1, none⟩ (.int .i64 (mostB (l1 - usedZ false delay since now + inc))) (by show w.heap.size ≠ w.heap.size + 1; omega))
 have HZ3 := Lib.hid (Z8.far ⟨w.heap.size + 1, 1, none⟩ (.int .i64 (mostB (l1 - usedZ false delay since now + inc))) (by show w.heap.size + 1 + 1 ≠ w.heap.size + 1; omega))
 have HL3 := Lib.hid (L8.setCell (p := ⟨w.heap.size + 1, 1, none⟩) (Nat.le_succ _) (.int .i64 (mostB (l1 - usedZ false delay since now + inc))))
 rw [← e16] at HX3 HR3 HZ3 HL3
 clear e16 dd df
 refine hK.out _ _ ?_
 clear hK K
 refine dnN ?_
 clear hHeld
 generalize w16 = w3 at *
 have hLb : 0 ≤ mostB (l1 - usedZ false delay since now + inc) ∧ mostB (l1 - usedZ false delay since now + inc) ≤ 100000000000 := by unfold mostB; split <;> omega
 have hMb : 0 ≤ madeB (m1 + 1) ∧ madeB (m1 + 1) ≤ 400 := by unfold madeB; split <;> omega
 have hmade : (if (400 : Int) < m1 + 1 then 400 else m1 + 1) = madeB (m1 + 1) := rfl
 have HX4 : Hid (Box w3 (w.heap.size + 1) [.int .i64 l0, .int .i64 ((mostB (l1 - usedZ false delay since now + inc))), .int .i64 m0, .int .i64 m1, .int .i64 p0, .int .i64 k, .int .i64 1, .int .i64 since, .bool false, .int .i64 fallen] 44) := Lib.hid HX3.out
 clear HX3
 generalize KM : madeB (m1 + 1) = M at *
 generalize KL : mostB (l1 - usedZ false delay since now + inc) = L at *
 generalize KX : (ps.getD k (0, 0)).1 = X at *
 have HM := Lib.hid KM
 have HL := Lib.hid KL
 have HXx := Lib.hid KX
 clear KM KL KX
 have cm := HX4.out.cell 3 rfl
 have fm := HX4.out.frozen 3
 have hz : w.heap.size + 1 < w3.heap.size := HX4.out.lt
 have HR4 := HR3
 have HZ4 := HZ3
 have HL4 := HL3
 clear HR3 HZ3 HL3 HMin
 have r0 := HR4.out.cell 0 rfl
 have cp := HX4.out.cell 5 rfl
 have cq : w3.cell? ⟨b, off + k * 2, none⟩ = some (.int .i64 X) := HXx.out ▸ ((bcell HL4.out).1 _ _ hbB).trans (Hpc.out k hkn).1
 have hkz : (k : Int) < (n : Int) := by omega
 have hb3 : b < w3.heap.size := Nat.lt_of_lt_of_le hbB HL4.out.size
 go_upto_region 7 with (fail)
 clear cm fm hmade r0 cp cq
 have HX5 : Hid (Box (w3.setCell ⟨w.heap.size + 1, 3, none⟩ (.int .i64 M)) (w.heap.size + 1) [.int .i64 l0, .int .i64 L, .int .i64 m0, .int .i64 M, .int .i64 p0, .int .i64 k, .int .i64 1, .int .i64 since, .bool false, .int .i64 fallen] 44) := Lib.hid (HX4.out.set 3 _)
 have HR5 := Lib.hid (HR4.out.far ⟨w.heap.size + 1, 3, none⟩ (.int .i64 M) (by show w.heap.size ≠ w.heap.size + 1; omega))
 have HZ5 := Lib.hid (HZ4.out.far ⟨w.heap.size + 1, 3, none⟩ (.int .i64 M) (by show w.heap.size + 1 + 1 ≠ w.heap.size + 1; omega))
 have HL5 := Lib.hid (HL4.out.setCell (p := ⟨w.heap.size + 1, 3, none⟩) (Nat.le_succ _) (.int .i64 M))
 generalize w3.setCell ⟨w.heap.size + 1, 3, none⟩ (.int .i64 M) = w5 at *
 clear HX4 HR4 HZ4 HL4 hz hb3
 have r0 := HR5.out.cell 0 rfl
 have cp := HX5.out.cell 5 rfl
 have cq : w5.cell? ⟨b, off + k * 2, none⟩ = some (.int .i64 X) := HXx.out ▸ ((bcell HL5.out).1 _ _ hbB).trans (Hpc.out k hkn).1
 go_quiet (fail)
 have HX6 := Lib.hid (HX5.out.drewN nq)
 have HR6 := Lib.hid (HR5.out.drewN nq)
 have HZ6 := Lib.hid (HZ5.out.drewN nq)
 have HL6 := Lib.hid (below_drewN HL5.out nq)
 generalize w5.drewN nq = w6 at *
 clear HX5 HR5 HZ5 HL5 r0 cp cq
 by_cases hc : 0 < X ∧ X ≤ M
 ·have HC := Lib.hid hc
  obtain ⟨h1, h2⟩ := hc
  have hkn1 : k + 1 < n := Hq1.out h1
  have hY := Hqb.out (k + 1) hkn1
  generalize KY : (ps.getD (k + 1) (0, 0)).2 = Y at *
  have HY := Lib.hid KY
  clear KY
  have hkz1 : (k : Int) + 1 < (n : Int) := by omega
  have hk1a : (0 : Int) ≤ (k : Int) + 1 := by omega
  have cm := HX6.out.cell 3 rfl
  have fm := HX6.out.frozen 3
  have cp := HX6.out.cell 5 rfl
  have fp := HX6.out.frozen 5
  go_upto_region 11 with (fail)
  clear cm fm cp fp
  have HX7 : Hid (Box ((w6.setCell ⟨w.heap.size + 1, 3, none⟩ (.int .i64 0)).setCell ⟨w.heap.size + 1, 5, none⟩ (.int .i64 (k + 1))) (w.heap.size + 1) [.int .i64 l0, .int .i64 L, .int .i64 m0, .int .i64 0, .int .i64 p0, .int .i64 (k + 1), .int .i64 1, .int .i64 since, .bool false, .int .i64 fallen] 44) := Lib.hid ((HX6.out.set 3 _).set 5 _)
  have HR7 := Lib.hid ((HR6.out.far ⟨w.heap.size + 1, 3, none⟩ (.int .i64 0) (by show w.heap.size ≠ w.heap.size + 1; omega)).far ⟨w.heap.size + 1, 5, none⟩ (.int .i64 (k + 1)) (by show w.heap.size ≠ w.heap.size + 1; omega))
  have HZ7 := Lib.hid ((HZ6.out.far ⟨w.heap.size + 1, 3, none⟩ (.int .i64 0) (by show w.heap.size + 1 + 1 ≠ w.heap.size + 1; omega)).far ⟨w.heap.size + 1, 5, none⟩ (.int .i64 (k + 1)) (by show w.heap.size + 1 + 1 ≠ w.heap.size + 1; omega))
  have HL7 := Lib.hid ((HL6.out.setCell (p := ⟨w.heap.size + 1, 3, none⟩) (Nat.le_succ _) (.int .i64 0)).setCell (p := ⟨w.heap.size + 1, 5, none⟩) (Nat.le_succ _) (.int .i64 (k + 1)))
  generalize (w6.setCell ⟨w.heap.size + 1, 3, none⟩ (.int .i64 0)).setCell ⟨w.heap.size + 1, 5, none⟩ (.int .i64 (k + 1)) = w7 at *
  generalize w7 = wq at *
  have Rz := HR7.out.drew
  have Xz := HX7.out.drew
  have Zz := HZ7.out.drew
  have Lz : Below w.heap.size w wq.drew := below_drew' HL7.out
  have Yz : wq.drew.cell? ⟨b, off + (k + 1) * 2 + 1, none⟩ = some (.int .i64 Y) := HY.out ▸ ((bcell Lz).1 _ _ hbB).trans (Hpc.out (k + 1) hkn1).2
  have hmin2 : (if (100000000000 : Int) < IntKind.i64.wrap (L + Y) then 100000000000 else IntKind.i64.wrap (L + Y)) = mostB (L + Y) := by rw [IntWalk.i64_in (L + Y) (by omega)]; rfl
  have HMin2 := Lib.hid hmin2
  clear hmin2 HR6 HX6 HZ6 HL6 HR7 HX7 HZ7 HL7
  refine wp_region_noPanic ?_
  refine beginL (S := (fun w' => w'.cell? ⟨w.heap.size + 1, 1, none⟩ = some (.int .i64 L) ∧ w'.cell? ⟨w.heap.size, 0, none⟩ = some (.slice (some ⟨b, off, none⟩) n cap) ∧ w'.cell? ⟨w.heap.size + 1, 5, none⟩ = some (.int .i64 (k + 1)) ∧ w'.cell? ⟨b, off + (k + 1) * 2 + 1, none⟩ = some (.int .i64 Y))) (L := [18]) (by kernel_rfl) ⟨Xz.cell 1 rfl, Rz.cell 0 rfl, Xz.cell 5 rfl, Yz⟩ (fun hHeld => ?_)
  refine tkW 0 ?_
  refine tkW 1 ?_
  refine tkW 2 ?_
  refine tkW 5 ?_
  refine tkW 7 ?_
  refine tkW 8 ?_
  refine tkW 16 ?_
  refine tkW 3 ?_
  refine tkL 6 ?_
  refine tkW 9 ?_
  refine tkL 4 ?_
  refine tkL 10 ?_
  refine tkW 11 ?_
  refine tkW 12 ?_
  refine tkL 13 ?_
  refine tkW 14 ?_
  refine tkW 15 ?_
  refine tkW 17 ?_
  refine ltL 18 fun K hK => ?_
  have dd := Xz.cell 1 rfl
  have df := Xz.frozen 1
  go_simp
  refine K_world ?_
  intro w16 e16
  rw [HMin2.out] at e16
  clear dd df
  have HX10 : Hid (Box w16 (w.heap.size + 1) [.int .i64 l0, .int .i64 ((mostB (L + Y))), .int .i64 m0, .int .i64 0, .int .i64 p0, .int .i64 (k + 1), .int .i64 1, .int .i64 since, .bool false, .int .i64 fallen] 44) := Lib.hid (e16 ▸ Xz.set 1 (.int .i64 (mostB (L + Y))))
  have HZ10 : Hid (Box w16 (w.heap.size + 1 + 1) [.int .i64 0, .int .i64 0, .int .i64 0, .int .i64 0, .int .i64 0, .int .i64 0, .int .i64 0, .int .i64 0, .bool false, .int .i64 0] 44) := Lib.hid (e16 ▸ Zz.far ⟨w.heap.size + 1, 1, none⟩ (.int .i64 (mostB (L + Y))) (by show w.heap.size + 1 + 1 ≠ w.heap.size + 1; omega))
  have HL10 : Hid (Below w.heap.size w w16) := Lib.hid (e16 ▸ Lz.setCell (p := ⟨w.heap.size + 1, 1, none⟩) (Nat.le_succ _) (.int .i64 (mostB (L + Y))))
  clear e16
  refine hK.out _ _ ?_
  clear hK K
  refine dnN ?_
  clear hHeld Xz Rz Zz Lz Yz
  generalize w16 = w10 at *
  have f6 := HX10.out.frozen 6
  have f7 := HX10.out.frozen 7
  have c3 := HX10.out.cell 3 rfl
  have c6 := HX10.out.cell 6 rfl
  have c7 := HX10.out.cell 7 rfl
  go_upto_region 13 with (fail)
  clear f6 f7 c3 c6 c7
  have HX8 : Hid (Box ((w10.setCell ⟨w.heap.size + 1, 6, none⟩ (.int .i64 0)).setCell ⟨w.heap.size + 1, 7, none⟩ (.int .i64 now)) (w.heap.size + 1) [.int .i64 l0, .int .i64 ((mostB (L + Y))), .int .i64 m0, .int .i64 0, .int .i64 p0, .int .i64 (k + 1), .int .i64 0, .int .i64 now, .bool false, .int .i64 fallen] 44) := Lib.hid ((HX10.out.set 6 _).set 7 _)
  have HZ8 := Lib.hid ((HZ10.out.far ⟨w.heap.size + 1, 6, none⟩ (.int .i64 0) (by show w.heap.size + 1 + 1 ≠ w.heap.size + 1; omega)).far ⟨w.heap.size + 1, 7, none⟩ (.int .i64 now) (by show w.heap.size + 1 + 1 ≠ w.heap.size + 1; omega))
  have HL8 := Lib.hid ((HL10.out.setCell (p := ⟨w.heap.size + 1, 6, none⟩) (Nat.le_succ _) (.int .i64 0)).setCell (p := ⟨w.heap.size + 1, 7, none⟩) (Nat.le_succ _) (.int .i64 now))
  generalize (w10.setCell ⟨w.heap.size + 1, 6, none⟩ (.int .i64 0)).setCell ⟨w.heap.size + 1, 7, none⟩ (.int .i64 now) = w8 at *
  refine wp_region_lit ?_
  refine wpList_load_box (by rfl) 44 (.tmp 4) (by rfl) (w.heap.size + 1) (by rfl) HX8.out Tryz.underlying44 (by rfl) (by kernel_rfl) ?_
  refine wpList_store_box (vs := [.int .i64 l0, .int .i64 ((mostB (L + Y))), .int .i64 m0, .int .i64 0, .int .i64 p0, .int .i64 (k + 1), .int .i64 0, .int .i64 now, .bool false, .int .i64 fallen]) (by rfl) 44 (.tmp 6) (.tmp 101) (by rfl) (w.heap.size + 1 + 1) (by rfl) (by rfl) HZ8.out rfl (by kernel_rfl) (by rfl) ?_
  have HZ9 := Lib.hid (HZ8.out.store (vs := [.int .i64 l0, .int .i64 ((mostB (L + Y))), .int .i64 m0, .int .i64 0, .int .i64 p0, .int .i64 (k + 1), .int .i64 0, .int .i64 now, .bool false, .int .i64 fallen]) rfl)
  have HL9 := Lib.hid (below_setCells HL8.out (show w.heap.size ≤ w.heap.size + 1 + 1 by omega) 0 [.int .i64 l0, .int .i64 ((mostB (L + Y))), .int .i64 m0, .int .i64 0, .int .i64 p0, .int .i64 (k + 1), .int .i64 0, .int .i64 now, .bool false, .int .i64 fallen])
  refine wpl_world1 ?_
  intro w9 e9
  rw [← e9] at HZ9 HL9
  clear e9 HX8 HZ8 HL8
  rename_i K hKx
  refine wpList_assign_last (by rfl) (by rfl) (hKx _ _ (wp_ret ?_))
  clear hKx K
  exact bodyPost_ret (results_box (v := .int .i64 0) rfl (by rfl) (by rfl) HZ9.out Tryz.underlying44 (by rfl) (by kernel_rfl)) rfl ⟨by rw [HM.out, HL.out, HXx.out, if_pos HC.out, if_pos HC.out, if_pos HC.out, HY.out], HL9.out⟩
 ·have HC := Lib.hid hc
  have hXs : X ≤ 0 ∨ (0 < X ∧ M < X) := by omega
  clear hc
  rcases hXs with h1 | ⟨h1, h2⟩
  ·have f6 := HX6.out.frozen 6
   have f7 := HX6.out.frozen 7
   have c3 := HX6.out.cell 3 rfl
   have c6 := HX6.out.cell 6 rfl
   have c7 := HX6.out.cell 7 rfl
   go_upto_region 13 with (fail)
   clear f6 f7 c3 c6 c7
   have HX8 : Hid (Box ((w6.setCell ⟨w.heap.size + 1, 6, none⟩ (.int .i64 0)).setCell ⟨w.heap.size + 1, 7, none⟩ (.int .i64 now)) (w.heap.size + 1) [.int .i64 l0, .int .i64 L, .int .i64 m0, .int .i64 M, .int .i64 p0, .int .i64 k, .int .i64 0, .int .i64 now, .bool false, .int .i64 fallen] 44) := Lib.hid ((HX6.out.set 6 _).set 7 _)
   have HZ8 := Lib.hid ((HZ6.out.far ⟨w.heap.size + 1, 6, none⟩ (.int .i64 0) (by show w.heap.size + 1 + 1 ≠ w.heap.size + 1; omega)).far ⟨w.heap.size + 1, 7, none⟩ (.int .i64 now) (by show w.heap.size + 1 + 1 ≠ w.heap.size + 1; omega))
   have HL8 := Lib.hid ((HL6.out.setCell (p := ⟨w.heap.size + 1, 6, none⟩) (Nat.le_succ _) (.int .i64 0)).setCell (p := ⟨w.heap.size + 1, 7, none⟩) (Nat.le_succ _) (.int .i64 now))
   generalize (w6.setCell ⟨w.heap.size + 1, 6, none⟩ (.int .i64 0)).setCell ⟨w.heap.size + 1, 7, none⟩ (.int .i64 now) = w8 at *
   refine wp_region_lit ?_
   refine wpList_load_box (by rfl) 44 (.tmp 4) (by rfl) (w.heap.size + 1) (by rfl) HX8.out Tryz.underlying44 (by rfl) (by kernel_rfl) ?_
   refine wpList_store_box (vs := [.int .i64 l0, .int .i64 L, .int .i64 m0, .int .i64 M, .int .i64 p0, .int .i64 k, .int .i64 0, .int .i64 now, .bool false, .int .i64 fallen]) (by rfl) 44 (.tmp 6) (.tmp 101) (by rfl) (w.heap.size + 1 + 1) (by rfl) (by rfl) HZ8.out rfl (by kernel_rfl) (by rfl) ?_
   have HZ9 := Lib.hid (HZ8.out.store (vs := [.int .i64 l0, .int .i64 L, .int .i64 m0, .int .i64 M, .int .i64 p0, .int .i64 k, .int .i64 0, .int .i64 now, .bool false, .int .i64 fallen]) rfl)
   have HL9 := Lib.hid (below_setCells HL8.out (show w.heap.size ≤ w.heap.size + 1 + 1 by omega) 0 [.int .i64 l0, .int .i64 L, .int .i64 m0, .int .i64 M, .int .i64 p0, .int .i64 k, .int .i64 0, .int .i64 now, .bool false, .int .i64 fallen])
   refine wpl_world1 ?_
   intro w9 e9
   rw [← e9] at HZ9 HL9
   clear e9 HX8 HZ8 HL8
   rename_i K hKx
   refine wpList_assign_last (by rfl) (by rfl) (hKx _ _ (wp_ret ?_))
   clear hKx K
   exact bodyPost_ret (results_box (v := .int .i64 0) rfl (by rfl) (by rfl) HZ9.out Tryz.underlying44 (by rfl) (by kernel_rfl)) rfl ⟨by rw [HM.out, HL.out, HXx.out, if_neg HC.out, if_neg HC.out, if_neg HC.out], HL9.out⟩
  ·have f6 := HX6.out.frozen 6
   have f7 := HX6.out.frozen 7
   have c3 := HX6.out.cell 3 rfl
   have c6 := HX6.out.cell 6 rfl
   have c7 := HX6.out.cell 7 rfl
   go_upto_region 13 with (fail)
   clear f6 f7 c3 c6 c7
   have HX8 : Hid (Box ((w6.setCell ⟨w.heap.size + 1, 6, none⟩ (.int .i64 0)).setCell ⟨w.heap.size + 1, 7, none⟩ (.int .i64 now)) (w.heap.size + 1) [.int .i64 l0, .int .i64 L, .int .i64 m0, .int .i64 M, .int .i64 p0, .int .i64 k, .int .i64 0, .int .i64 now, .bool false, .int .i64 fallen] 44) := Lib.hid ((HX6.out.set 6 _).set 7 _)
   have HZ8 := Lib.hid ((HZ6.out.far ⟨w.heap.size + 1, 6, none⟩ (.int .i64 0) (by show w.heap.size + 1 + 1 ≠ w.heap.size + 1; omega)).far ⟨w.heap.size + 1, 7, none⟩ (.int .i64 now) (by show w.heap.size + 1 + 1 ≠ w.heap.size + 1; omega))
   have HL8 := Lib.hid ((HL6.out.setCell (p := ⟨w.heap.size + 1, 6, none⟩) (Nat.le_succ _) (.int .i64 0)).setCell (p := ⟨w.heap.size + 1, 7, none⟩) (Nat.le_succ _) (.int .i64 now))
   generalize (w6.setCell ⟨w.heap.size + 1, 6, none⟩ (.int .i64 0)).setCell ⟨w.heap.size + 1, 7, none⟩ (.int .i64 now) = w8 at *
   refine wp_region_lit ?_
   refine wpList_load_box (by rfl) 44 (.tmp 4) (by rfl) (w.heap.size + 1) (by rfl) HX8.out Tryz.underlying44 (by rfl) (by kernel_rfl) ?_
   refine wpList_store_box (vs := [.int .i64 l0, .int .i64 L, .int .i64 m0, .int .i64 M, .int .i64 p0, .int .i64 k, .int .i64 0, .int .i64 now, .bool false, .int .i64 fallen]) (by rfl) 44 (.tmp 6) (.tmp 101) (by rfl) (w.heap.size + 1 + 1) (by rfl) (by rfl) HZ8.out rfl (by kernel_rfl) (by rfl) ?_
   have HZ9 := Lib.hid (HZ8.out.store (vs := [.int .i64 l0, .int .i64 L, .int .i64 m0, .int .i64 M, .int .i64 p0, .int .i64 k, .int .i64 0, .int .i64 now, .bool false, .int .i64 fallen]) rfl)
   have HL9 := Lib.hid (below_setCells HL8.out (show w.heap.size ≤ w.heap.size + 1 + 1 by omega) 0 [.int .i64 l0, .int .i64 L, .int .i64 m0, .int .i64 M, .int .i64 p0, .int .i64 k, .int .i64 0, .int .i64 now, .bool false, .int .i64 fallen])
   refine wpl_world1 ?_
   intro w9 e9
   rw [← e9] at HZ9 HL9
   clear e9 HX8 HZ8 HL8
   rename_i K hKx
   refine wpList_assign_last (by rfl) (by rfl) (hKx _ _ (wp_ret ?_))
   clear hKx K
   exact bodyPost_ret (results_box (v := .int .i64 0) rfl (by rfl) (by rfl) HZ9.out Tryz.underlying44 (by rfl) (by kernel_rfl)) rfl ⟨by rw [HM.out, HL.out, HXx.out, if_neg HC.out, if_neg HC.out, if_neg HC.out], HL9.out⟩
end Go.Proofs.YtnodagljaoonjaaGreatDoor.clk
