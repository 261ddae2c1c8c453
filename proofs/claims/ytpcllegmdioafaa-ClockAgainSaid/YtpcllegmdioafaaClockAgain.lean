/- ClockAgain: a clock that is stopped and goes on at once has the same time left, except that the delay begins anew. For every input, no condition. -/
import Derived.Test.YtpcllegmdioafaaClkRun
import Derived.Test.YtpcllegmdioafaaClkPress
namespace Go.Proofs.Ytpcllegmdioafaa.clockAgain
open Go.ChangeShapes Go.WideShapes Go.ChangeAt Go.RowKit
set_option linter.unusedVariables false


set_option maxHeartbeats 4000000 in
theorem walk_no (A : Option Addr) (n cap : Nat) (inc delay : Int) (ps : List (Int × Int)) (l0 l1 m0 m1 p0 p1 turn since fallen : Int) (st : Bool) (now : Int) (w : World) (hn : n ≤ 9223372036854775807) (hp : PerAt w w.heap.size A n ps) (h : ¬ RunOk n inc 0 ps l0 l1 m0 m1 p0 p1 turn since fallen st now) :
    Calls Try.prog 5 #[.agg #[.slice A n cap, .int .i64 inc, .int .i64 delay], .agg #[.int .i64 l0, .int .i64 l1, .int .i64 m0, .int .i64 m1, .int .i64 p0, .int .i64 p1, .int .i64 turn, .int .i64 since, .bool st, .int .i64 fallen], .int .i64 now] w fun e w' => e = .returned (.bool true) ∧ Below w.heap.size w w' := by
  have H := Lib.hid h
  clear h
  have hzz := zeroClk
  have hP0 := Lib.hid hp
  clear hp
  go_enter Try.func5, Try.ntmps5
  go_wp2_with fail
  refine (ticks_any _).mono ?_
  rintro e w1 ⟨rfl, hb⟩
  obtain ⟨hcell, hfr⟩ := bcell hb
  have hs := hb.size
  (try simp only [World.size_alloc] at hs)
  have hz0 : w.heap.size < w1.heap.size := by omega
  have hz1 : w.heap.size + 1 < w1.heap.size := by omega
  have hbel := (((Below.refl w.heap.size w).alloc (by go_size) _).alloc (by go_size) _).trans (hb.mono (by go_size))
  have o2 : w1.cell? ⟨w.heap.size, 2, none⟩ = some (.int .i64 delay) := by simp [hcell, go_sem]
  go_wp2_with fail
  generalize hW : w1.setCell ⟨w.heap.size, 2, none⟩ (.int .i64 0) = w2
  have r0 : w2.cell? ⟨w.heap.size, 0, none⟩ = some (.slice A n cap) := by rw [← hW]; simp [hcell, go_sem]
  have r1 : w2.cell? ⟨w.heap.size, 1, none⟩ = some (.int .i64 inc) := by rw [← hW]; simp [hcell, go_sem]
  have r2 : w2.cell? ⟨w.heap.size, 2, none⟩ = some (.int .i64 0) := by rw [← hW]; simp [o2, go_sem]
  have c0 : w2.cell? ⟨w.heap.size + 1, 0, none⟩ = some (.int .i64 l0) := by rw [← hW]; simp [hcell, go_sem]
  have c1 : w2.cell? ⟨w.heap.size + 1, 1, none⟩ = some (.int .i64 l1) := by rw [← hW]; simp [hcell, go_sem]
  have c2 : w2.cell? ⟨w.heap.size + 1, 2, none⟩ = some (.int .i64 m0) := by rw [← hW]; simp [hcell, go_sem]
  have c3 : w2.cell? ⟨w.heap.size + 1, 3, none⟩ = some (.int .i64 m1) := by rw [← hW]; simp [hcell, go_sem]
  have c4 : w2.cell? ⟨w.heap.size + 1, 4, none⟩ = some (.int .i64 p0) := by rw [← hW]; simp [hcell, go_sem]
  have c5 : w2.cell? ⟨w.heap.size + 1, 5, none⟩ = some (.int .i64 p1) := by rw [← hW]; simp [hcell, go_sem]
  have c6 : w2.cell? ⟨w.heap.size + 1, 6, none⟩ = some (.int .i64 turn) := by rw [← hW]; simp [hcell, go_sem]
  have c7 : w2.cell? ⟨w.heap.size + 1, 7, none⟩ = some (.int .i64 since) := by rw [← hW]; simp [hcell, go_sem]
  have c8 : w2.cell? ⟨w.heap.size + 1, 8, none⟩ = some (.bool st) := by rw [← hW]; simp [hcell, go_sem]
  have c9 : w2.cell? ⟨w.heap.size + 1, 9, none⟩ = some (.int .i64 fallen) := by rw [← hW]; simp [hcell, go_sem]
  have hs' : w2.heap.size = w1.heap.size := by rw [← hW]; simp
  have y0 : w.heap.size < w2.heap.size := by omega
  have y1 : w.heap.size + 1 < w2.heap.size := by omega
  have hbel2 : Below w.heap.size w w2 := by rw [← hW]; go_grown
  have hP2 : Hid (PerAt w2 w2.heap.size A n ps) := Lib.hid (by
    have q := hP0.out.below hbel
    rw [← hW]
    exact ((hP0.out.mono (Nat.le_refl _) (fun p hp => hbel.cell hp)).setCell ⟨w.heap.size, 2, none⟩ (.int .i64 0) (Nat.le_refl _)).more (by simp; omega))
  clear hW hcell hfr hbel hs hs' hz0 hz1 hb o2
  refine (Stop_no A n cap inc 0 ps l0 l1 m0 m1 p0 p1 turn since fallen st now H.out _ hn hP2.out).mono ?_
  rintro e w3 ⟨c, hc, rfl, hb3⟩
  have h1 : (c != 0) = true := by simpa using hc
  have hs3 := hb3.size
  clear hc
  have hbel3 : Below w.heap.size w w3 := hbel2.trans (hb3.mono (by omega))
  go_wp2
  go_ret
  refine ⟨rfl, ?_⟩
  go_grown

set_option maxHeartbeats 4000000 in
theorem walk_ok_0 (A : Option Addr) (n cap : Nat) (inc delay : Int) (ps : List (Int × Int)) (l0 l1 m0 m1 p0 p1 since fallen : Int) (now : Int) (w : World) (hn : n ≤ 9223372036854775807) (hp : PerAt w w.heap.size A n ps) (hr : RuleOk n inc 0 ps) (hk : ClkOk n l0 l1 m0 m1 p0 p1 0 since fallen) (hnow : since ≤ now ∧ now ≤ 100000000) (hf : fallen < 0) (hu : usedZ false 0 since now ≤ l0) :
    Calls Try.prog 5 #[.agg #[.slice A n cap, .int .i64 inc, .int .i64 delay], .agg #[.int .i64 l0, .int .i64 l1, .int .i64 m0, .int .i64 m1, .int .i64 p0, .int .i64 p1, .int .i64 0, .int .i64 since, .bool false, .int .i64 fallen], .int .i64 now] w fun e w' => e = .returned (.bool true) ∧ Below w.heap.size w w' := by
  have hsn := hk.2.2.1
  have hlb : 0 ≤ l0 ∧ l0 ≤ 100000000000 := hk.2.2.2.2.2.1
  have hub := usedZ_b false 0 since now (by omega) (by omega) (by omega) (by omega)
  have e0 : witB now since 100000000 = true := witB_true hnow
  have e1 : witB now now 100000000 = true := witB_true (by omega)
  have hkx : ClkOk n (l0 - usedZ false 0 since now) l1 m0 m1 p0 p1 0 now fallen := by unfold ClkOk at *; omega
  have ux : usedZ true 0 now now = 0 := by unfold usedZ; simp
  have uy : usedZ false 0 now now = 0 := by unfold usedZ; simp
  have hl2 : usedZ true 0 now now ≤ l0 - usedZ false 0 since now := by rw [ux]; omega
  have H := Lib.hid hr
  have HK := Lib.hid hk
  have HX := Lib.hid hkx
  have Z0 : Hid (leftZ true fallen l0 l0 (usedZ false 0 since now) = l0 - usedZ false 0 since now) := Lib.hid (by unfold leftZ; rw [if_neg (by omega), if_neg (by omega)]; rfl)
  have Q0 : Hid (leftZ true fallen (l0 - usedZ false 0 since now) (l0 - usedZ false 0 since now) (usedZ false 0 now now) = l0 - usedZ false 0 since now) := Lib.hid (by rw [uy]; unfold leftZ; rw [if_neg (by omega), if_neg (by omega)]; simp)
  have LA0 : Hid (LeftOk n inc 0 ps l0 l1 m0 m1 p0 p1 0 since fallen 0 now) := Lib.hid ⟨hr, hk, by omega, hnow⟩
  have LB0 : Hid (LeftOk n inc 0 ps (l0 - usedZ false 0 since now) l1 m0 m1 p0 p1 0 now fallen 0 now) := Lib.hid ⟨hr, hkx, by omega, by omega⟩
  have Z1 : Hid (leftZ false fallen l0 l1 (usedZ false 0 since now) = l1) := Lib.hid (by unfold leftZ; rw [if_neg (by omega), if_neg (by omega)]; rfl)
  have Q1 : Hid (leftZ false fallen (l0 - usedZ false 0 since now) (l1) (usedZ false 0 now now) = l1) := Lib.hid (by rw [uy]; unfold leftZ; rw [if_neg (by omega), if_neg (by omega)]; rfl)
  have LA1 : Hid (LeftOk n inc 0 ps l0 l1 m0 m1 p0 p1 0 since fallen 1 now) := Lib.hid ⟨hr, hk, by omega, hnow⟩
  have LB1 : Hid (LeftOk n inc 0 ps (l0 - usedZ false 0 since now) l1 m0 m1 p0 p1 0 now fallen 1 now) := Lib.hid ⟨hr, hkx, by omega, by omega⟩
  clear hr hk hkx ux uy
  have hP0 := Lib.hid hp
  clear hp
  go_enter Try.func5, Try.ntmps5
  go_wp2_with fail
  refine (ticks_any _).mono ?_
  rintro e w1 ⟨rfl, hb⟩
  obtain ⟨hcell, hfr⟩ := bcell hb
  have hs := hb.size
  (try simp only [World.size_alloc] at hs)
  have hz0 : w.heap.size < w1.heap.size := by omega
  have hz1 : w.heap.size + 1 < w1.heap.size := by omega
  have hbel := (((Below.refl w.heap.size w).alloc (by go_size) _).alloc (by go_size) _).trans (hb.mono (by go_size))
  have o2 : w1.cell? ⟨w.heap.size, 2, none⟩ = some (.int .i64 delay) := by simp [hcell, go_sem]
  go_wp2_with fail
  generalize hW : w1.setCell ⟨w.heap.size, 2, none⟩ (.int .i64 0) = w2
  have r0 : w2.cell? ⟨w.heap.size, 0, none⟩ = some (.slice A n cap) := by rw [← hW]; simp [hcell, go_sem]
  have r1 : w2.cell? ⟨w.heap.size, 1, none⟩ = some (.int .i64 inc) := by rw [← hW]; simp [hcell, go_sem]
  have r2 : w2.cell? ⟨w.heap.size, 2, none⟩ = some (.int .i64 0) := by rw [← hW]; simp [o2, go_sem]
  have c0 : w2.cell? ⟨w.heap.size + 1, 0, none⟩ = some (.int .i64 l0) := by rw [← hW]; simp [hcell, go_sem]
  have c1 : w2.cell? ⟨w.heap.size + 1, 1, none⟩ = some (.int .i64 l1) := by rw [← hW]; simp [hcell, go_sem]
  have c2 : w2.cell? ⟨w.heap.size + 1, 2, none⟩ = some (.int .i64 m0) := by rw [← hW]; simp [hcell, go_sem]
  have c3 : w2.cell? ⟨w.heap.size + 1, 3, none⟩ = some (.int .i64 m1) := by rw [← hW]; simp [hcell, go_sem]
  have c4 : w2.cell? ⟨w.heap.size + 1, 4, none⟩ = some (.int .i64 p0) := by rw [← hW]; simp [hcell, go_sem]
  have c5 : w2.cell? ⟨w.heap.size + 1, 5, none⟩ = some (.int .i64 p1) := by rw [← hW]; simp [hcell, go_sem]
  have c6 : w2.cell? ⟨w.heap.size + 1, 6, none⟩ = some (.int .i64 0) := by rw [← hW]; simp [hcell, go_sem]
  have c7 : w2.cell? ⟨w.heap.size + 1, 7, none⟩ = some (.int .i64 since) := by rw [← hW]; simp [hcell, go_sem]
  have c8 : w2.cell? ⟨w.heap.size + 1, 8, none⟩ = some (.bool false) := by rw [← hW]; simp [hcell, go_sem]
  have c9 : w2.cell? ⟨w.heap.size + 1, 9, none⟩ = some (.int .i64 fallen) := by rw [← hW]; simp [hcell, go_sem]
  have hs' : w2.heap.size = w1.heap.size := by rw [← hW]; simp
  have y0 : w.heap.size < w2.heap.size := by omega
  have y1 : w.heap.size + 1 < w2.heap.size := by omega
  have hbel2 : Below w.heap.size w w2 := by rw [← hW]; go_grown
  have hP2 : Hid (PerAt w2 w2.heap.size A n ps) := Lib.hid (by
    have q := hP0.out.below hbel
    rw [← hW]
    exact ((hP0.out.mono (Nat.le_refl _) (fun p hp => hbel.cell hp)).setCell ⟨w.heap.size, 2, none⟩ (.int .i64 0) (Nat.le_refl _)).more (by simp; omega))
  clear hW hcell hfr hbel hs hs' hz0 hz1 hb o2
  refine (Stop_ok_0 A n cap inc 0 ps l0 l1 m0 m1 p0 p1 since fallen now _ hn hP2.out H.out HK.out e0 hf hu).mono ?_
  rintro e w3 ⟨rfl, hb3⟩
  obtain ⟨hcell3, hfr3⟩ := bcell hb3
  have hs3 := hb3.size
  have y3_0 : w.heap.size < w3.heap.size := by omega
  have y3_1 : w.heap.size + 1 < w3.heap.size := by omega
  have hP3 := Lib.hid ((hP2.out.below hb3).alloc (.cells #[.int .i64 (l0 - usedZ false 0 since now), .int .i64 l1, .int .i64 m0, .int .i64 m1, .int .i64 p0, .int .i64 p1, .int .i64 0, .int .i64 now, .bool true, .int .i64 fallen] 27))
  go_wp2_with fail
  refine (Go_ok_0 A n cap inc 0 ps (l0 - usedZ false 0 since now) l1 m0 m1 p0 p1 now fallen now _ hn hP3.out H.out HX.out e1 hf hl2).mono ?_
  rintro e w4 ⟨rfl, hb4⟩
  obtain ⟨hcell4, hfr4⟩ := bcell hb4
  have hs4 := hb4.size
  (try simp only [World.size_alloc] at hs4)
  have y4_0 : w.heap.size < w4.heap.size := by omega
  have y4_1 : w.heap.size + 1 < w4.heap.size := by omega
  have y4_2 : w3.heap.size < w4.heap.size := by omega
  have hP4 := Lib.hid ((hP3.out.below hb4).alloc (.cells #[.int .i64 (l0 - usedZ false 0 since now), .int .i64 l1, .int .i64 m0, .int .i64 m1, .int .i64 p0, .int .i64 p1, .int .i64 0, .int .i64 now, .bool false, .int .i64 fallen] 27))
  go_wp2_with fail
  refine wp_loop_rounds 3 ?_
  rw [rounds_succ]
  go_wp2_with fail
  refine (Left_any A n cap inc 0 ps l0 l1 m0 m1 p0 p1 0 since fallen false 0 now _ hn hP4.out).mono ?_
  rintro e w5 ⟨xa0, ca0, rfl, ha0, hb0a, hc0a, hb5⟩
  obtain ⟨hcell5, hfr5⟩ := bcell hb5
  have hs5 := hb5.size
  (try simp only [World.size_alloc] at hs5)
  have y5_0 : w.heap.size < w5.heap.size := by omega
  have y5_1 : w.heap.size + 1 < w5.heap.size := by omega
  have y5_2 : w3.heap.size < w5.heap.size := by omega
  have y5_3 : w4.heap.size < w5.heap.size := by omega
  obtain rfl : ca0 = 0 := ha0.2 LA0.out
  obtain rfl : xa0 = l0 - usedZ false 0 since now := (hb0a LA0.out).trans Z0.out
  clear ha0 hb0a hc0a
  have hP5 := Lib.hid (hP4.out.below hb5)
  go_wp2_with fail
  refine (Left_any A n cap inc 0 ps (l0 - usedZ false 0 since now) l1 m0 m1 p0 p1 0 now fallen false 0 now _ hn hP5.out).mono ?_
  rintro e w6 ⟨xb0, cb0, rfl, ha0, hb0a, hc0a, hb6⟩
  obtain ⟨hcell6, hfr6⟩ := bcell hb6
  have hs6 := hb6.size
  (try simp only [World.size_alloc] at hs6)
  have y6_0 : w.heap.size < w6.heap.size := by omega
  have y6_1 : w.heap.size + 1 < w6.heap.size := by omega
  have y6_2 : w3.heap.size < w6.heap.size := by omega
  have y6_3 : w4.heap.size < w6.heap.size := by omega
  obtain rfl : cb0 = 0 := ha0.2 LB0.out
  obtain rfl : xb0 = l0 - usedZ false 0 since now := (hb0a LB0.out).trans Q0.out
  clear ha0 hb0a hc0a
  have hP6 := Lib.hid (hP5.out.below hb6)
  go_wp2_with fail
  rw [rounds_succ]
  go_wp2_with fail
  refine (Left_any A n cap inc 0 ps l0 l1 m0 m1 p0 p1 0 since fallen false 1 now _ hn hP6.out).mono ?_
  rintro e w7 ⟨xa1, ca1, rfl, ha1, hb1a, hc1a, hb7⟩
  obtain ⟨hcell7, hfr7⟩ := bcell hb7
  have hs7 := hb7.size
  (try simp only [World.size_alloc] at hs7)
  have y7_0 : w.heap.size < w7.heap.size := by omega
  have y7_1 : w.heap.size + 1 < w7.heap.size := by omega
  have y7_2 : w3.heap.size < w7.heap.size := by omega
  have y7_3 : w4.heap.size < w7.heap.size := by omega
  obtain rfl : ca1 = 0 := ha1.2 LA1.out
  obtain rfl : l1 = xa1 := ((hb1a LA1.out).trans Z1.out).symm
  clear ha1 hb1a hc1a
  have hP7 := Lib.hid (hP6.out.below hb7)
  go_wp2_with fail
  refine (Left_any A n cap inc 0 ps (l0 - usedZ false 0 since now) l1 m0 m1 p0 p1 0 now fallen false 1 now _ hn hP7.out).mono ?_
  rintro e w8 ⟨xb1, cb1, rfl, ha1, hb1a, hc1a, hb8⟩
  obtain ⟨hcell8, hfr8⟩ := bcell hb8
  have hs8 := hb8.size
  (try simp only [World.size_alloc] at hs8)
  have y8_0 : w.heap.size < w8.heap.size := by omega
  have y8_1 : w.heap.size + 1 < w8.heap.size := by omega
  have y8_2 : w3.heap.size < w8.heap.size := by omega
  have y8_3 : w4.heap.size < w8.heap.size := by omega
  obtain rfl : cb1 = 0 := ha1.2 LB1.out
  obtain rfl : l1 = xb1 := ((hb1a LB1.out).trans Q1.out).symm
  clear ha1 hb1a hc1a
  have hP8 := Lib.hid (hP7.out.below hb8)
  go_wp2_with fail
  rw [rounds_succ]
  go_wp2_with fail
  go_ret
  refine ⟨rfl, ?_⟩
  exact ((((((((hbel2.trans (hb3.mono (by omega))).alloc (by go_size) _).trans (hb4.mono (by go_size))).alloc (by go_size) _).trans (hb5.mono (by go_size))).trans (hb6.mono (by go_size))).trans (hb7.mono (by go_size))).trans (hb8.mono (by go_size)))

set_option maxHeartbeats 4000000 in
theorem walk_ok_1 (A : Option Addr) (n cap : Nat) (inc delay : Int) (ps : List (Int × Int)) (l0 l1 m0 m1 p0 p1 since fallen : Int) (now : Int) (w : World) (hn : n ≤ 9223372036854775807) (hp : PerAt w w.heap.size A n ps) (hr : RuleOk n inc 0 ps) (hk : ClkOk n l0 l1 m0 m1 p0 p1 1 since fallen) (hnow : since ≤ now ∧ now ≤ 100000000) (hf : fallen < 0) (hu : usedZ false 0 since now ≤ l1) :
    Calls Try.prog 5 #[.agg #[.slice A n cap, .int .i64 inc, .int .i64 delay], .agg #[.int .i64 l0, .int .i64 l1, .int .i64 m0, .int .i64 m1, .int .i64 p0, .int .i64 p1, .int .i64 1, .int .i64 since, .bool false, .int .i64 fallen], .int .i64 now] w fun e w' => e = .returned (.bool true) ∧ Below w.heap.size w w' := by
  have hsn := hk.2.2.1
  have hlb : 0 ≤ l1 ∧ l1 ≤ 100000000000 := hk.2.2.2.2.2.2.2.2
  have hub := usedZ_b false 0 since now (by omega) (by omega) (by omega) (by omega)
  have e0 : witB now since 100000000 = true := witB_true hnow
  have e1 : witB now now 100000000 = true := witB_true (by omega)
  have hkx : ClkOk n l0 (l1 - usedZ false 0 since now) m0 m1 p0 p1 1 now fallen := by unfold ClkOk at *; omega
  have ux : usedZ true 0 now now = 0 := by unfold usedZ; simp
  have uy : usedZ false 0 now now = 0 := by unfold usedZ; simp
  have hl2 : usedZ true 0 now now ≤ l1 - usedZ false 0 since now := by rw [ux]; omega
  have H := Lib.hid hr
  have HK := Lib.hid hk
  have HX := Lib.hid hkx
  have Z0 : Hid (leftZ false fallen l1 l0 (usedZ false 0 since now) = l0) := Lib.hid (by unfold leftZ; rw [if_neg (by omega), if_neg (by omega)]; rfl)
  have Q0 : Hid (leftZ false fallen (l1 - usedZ false 0 since now) (l0) (usedZ false 0 now now) = l0) := Lib.hid (by rw [uy]; unfold leftZ; rw [if_neg (by omega), if_neg (by omega)]; rfl)
  have LA0 : Hid (LeftOk n inc 0 ps l0 l1 m0 m1 p0 p1 1 since fallen 0 now) := Lib.hid ⟨hr, hk, by omega, hnow⟩
  have LB0 : Hid (LeftOk n inc 0 ps l0 (l1 - usedZ false 0 since now) m0 m1 p0 p1 1 now fallen 0 now) := Lib.hid ⟨hr, hkx, by omega, by omega⟩
  have Z1 : Hid (leftZ true fallen l1 l1 (usedZ false 0 since now) = l1 - usedZ false 0 since now) := Lib.hid (by unfold leftZ; rw [if_neg (by omega), if_neg (by omega)]; rfl)
  have Q1 : Hid (leftZ true fallen (l1 - usedZ false 0 since now) (l1 - usedZ false 0 since now) (usedZ false 0 now now) = l1 - usedZ false 0 since now) := Lib.hid (by rw [uy]; unfold leftZ; rw [if_neg (by omega), if_neg (by omega)]; simp)
  have LA1 : Hid (LeftOk n inc 0 ps l0 l1 m0 m1 p0 p1 1 since fallen 1 now) := Lib.hid ⟨hr, hk, by omega, hnow⟩
  have LB1 : Hid (LeftOk n inc 0 ps l0 (l1 - usedZ false 0 since now) m0 m1 p0 p1 1 now fallen 1 now) := Lib.hid ⟨hr, hkx, by omega, by omega⟩
  clear hr hk hkx ux uy
  have hP0 := Lib.hid hp
  clear hp
  go_enter Try.func5, Try.ntmps5
  go_wp2_with fail
  refine (ticks_any _).mono ?_
  rintro e w1 ⟨rfl, hb⟩
  obtain ⟨hcell, hfr⟩ := bcell hb
  have hs := hb.size
  (try simp only [World.size_alloc] at hs)
  have hz0 : w.heap.size < w1.heap.size := by omega
  have hz1 : w.heap.size + 1 < w1.heap.size := by omega
  have hbel := (((Below.refl w.heap.size w).alloc (by go_size) _).alloc (by go_size) _).trans (hb.mono (by go_size))
  have o2 : w1.cell? ⟨w.heap.size, 2, none⟩ = some (.int .i64 delay) := by simp [hcell, go_sem]
  go_wp2_with fail
  generalize hW : w1.setCell ⟨w.heap.size, 2, none⟩ (.int .i64 0) = w2
  have r0 : w2.cell? ⟨w.heap.size, 0, none⟩ = some (.slice A n cap) := by rw [← hW]; simp [hcell, go_sem]
  have r1 : w2.cell? ⟨w.heap.size, 1, none⟩ = some (.int .i64 inc) := by rw [← hW]; simp [hcell, go_sem]
  have r2 : w2.cell? ⟨w.heap.size, 2, none⟩ = some (.int .i64 0) := by rw [← hW]; simp [o2, go_sem]
  have c0 : w2.cell? ⟨w.heap.size + 1, 0, none⟩ = some (.int .i64 l0) := by rw [← hW]; simp [hcell, go_sem]
  have c1 : w2.cell? ⟨w.heap.size + 1, 1, none⟩ = some (.int .i64 l1) := by rw [← hW]; simp [hcell, go_sem]
  have c2 : w2.cell? ⟨w.heap.size + 1, 2, none⟩ = some (.int .i64 m0) := by rw [← hW]; simp [hcell, go_sem]
  have c3 : w2.cell? ⟨w.heap.size + 1, 3, none⟩ = some (.int .i64 m1) := by rw [← hW]; simp [hcell, go_sem]
  have c4 : w2.cell? ⟨w.heap.size + 1, 4, none⟩ = some (.int .i64 p0) := by rw [← hW]; simp [hcell, go_sem]
  have c5 : w2.cell? ⟨w.heap.size + 1, 5, none⟩ = some (.int .i64 p1) := by rw [← hW]; simp [hcell, go_sem]
  have c6 : w2.cell? ⟨w.heap.size + 1, 6, none⟩ = some (.int .i64 1) := by rw [← hW]; simp [hcell, go_sem]
  have c7 : w2.cell? ⟨w.heap.size + 1, 7, none⟩ = some (.int .i64 since) := by rw [← hW]; simp [hcell, go_sem]
  have c8 : w2.cell? ⟨w.heap.size + 1, 8, none⟩ = some (.bool false) := by rw [← hW]; simp [hcell, go_sem]
  have c9 : w2.cell? ⟨w.heap.size + 1, 9, none⟩ = some (.int .i64 fallen) := by rw [← hW]; simp [hcell, go_sem]
  have hs' : w2.heap.size = w1.heap.size := by rw [← hW]; simp
  have y0 : w.heap.size < w2.heap.size := by omega
  have y1 : w.heap.size + 1 < w2.heap.size := by omega
  have hbel2 : Below w.heap.size w w2 := by rw [← hW]; go_grown
  have hP2 : Hid (PerAt w2 w2.heap.size A n ps) := Lib.hid (by
    have q := hP0.out.below hbel
    rw [← hW]
    exact ((hP0.out.mono (Nat.le_refl _) (fun p hp => hbel.cell hp)).setCell ⟨w.heap.size, 2, none⟩ (.int .i64 0) (Nat.le_refl _)).more (by simp; omega))
  clear hW hcell hfr hbel hs hs' hz0 hz1 hb o2
  refine (Stop_ok_1 A n cap inc 0 ps l0 l1 m0 m1 p0 p1 since fallen now _ hn hP2.out H.out HK.out e0 hf hu).mono ?_
  rintro e w3 ⟨rfl, hb3⟩
  obtain ⟨hcell3, hfr3⟩ := bcell hb3
  have hs3 := hb3.size
  have y3_0 : w.heap.size < w3.heap.size := by omega
  have y3_1 : w.heap.size + 1 < w3.heap.size := by omega
  have hP3 := Lib.hid ((hP2.out.below hb3).alloc (.cells #[.int .i64 l0, .int .i64 (l1 - usedZ false 0 since now), .int .i64 m0, .int .i64 m1, .int .i64 p0, .int .i64 p1, .int .i64 1, .int .i64 now, .bool true, .int .i64 fallen] 27))
  go_wp2_with fail
  refine (Go_ok_1 A n cap inc 0 ps l0 (l1 - usedZ false 0 since now) m0 m1 p0 p1 now fallen now _ hn hP3.out H.out HX.out e1 hf hl2).mono ?_
  rintro e w4 ⟨rfl, hb4⟩
  obtain ⟨hcell4, hfr4⟩ := bcell hb4
  have hs4 := hb4.size
  (try simp only [World.size_alloc] at hs4)
  have y4_0 : w.heap.size < w4.heap.size := by omega
  have y4_1 : w.heap.size + 1 < w4.heap.size := by omega
  have y4_2 : w3.heap.size < w4.heap.size := by omega
  have hP4 := Lib.hid ((hP3.out.below hb4).alloc (.cells #[.int .i64 l0, .int .i64 (l1 - usedZ false 0 since now), .int .i64 m0, .int .i64 m1, .int .i64 p0, .int .i64 p1, .int .i64 1, .int .i64 now, .bool false, .int .i64 fallen] 27))
  go_wp2_with fail
  refine wp_loop_rounds 3 ?_
  rw [rounds_succ]
  go_wp2_with fail
  refine (Left_any A n cap inc 0 ps l0 l1 m0 m1 p0 p1 1 since fallen false 0 now _ hn hP4.out).mono ?_
  rintro e w5 ⟨xa0, ca0, rfl, ha0, hb0a, hc0a, hb5⟩
  obtain ⟨hcell5, hfr5⟩ := bcell hb5
  have hs5 := hb5.size
  (try simp only [World.size_alloc] at hs5)
  have y5_0 : w.heap.size < w5.heap.size := by omega
  have y5_1 : w.heap.size + 1 < w5.heap.size := by omega
  have y5_2 : w3.heap.size < w5.heap.size := by omega
  have y5_3 : w4.heap.size < w5.heap.size := by omega
  obtain rfl : ca0 = 0 := ha0.2 LA0.out
  obtain rfl : l0 = xa0 := ((hb0a LA0.out).trans Z0.out).symm
  clear ha0 hb0a hc0a
  have hP5 := Lib.hid (hP4.out.below hb5)
  go_wp2_with fail
  refine (Left_any A n cap inc 0 ps l0 (l1 - usedZ false 0 since now) m0 m1 p0 p1 1 now fallen false 0 now _ hn hP5.out).mono ?_
  rintro e w6 ⟨xb0, cb0, rfl, ha0, hb0a, hc0a, hb6⟩
  obtain ⟨hcell6, hfr6⟩ := bcell hb6
  have hs6 := hb6.size
  (try simp only [World.size_alloc] at hs6)
  have y6_0 : w.heap.size < w6.heap.size := by omega
  have y6_1 : w.heap.size + 1 < w6.heap.size := by omega
  have y6_2 : w3.heap.size < w6.heap.size := by omega
  have y6_3 : w4.heap.size < w6.heap.size := by omega
  obtain rfl : cb0 = 0 := ha0.2 LB0.out
  obtain rfl : l0 = xb0 := ((hb0a LB0.out).trans Q0.out).symm
  clear ha0 hb0a hc0a
  have hP6 := Lib.hid (hP5.out.below hb6)
  go_wp2_with fail
  rw [rounds_succ]
  go_wp2_with fail
  refine (Left_any A n cap inc 0 ps l0 l1 m0 m1 p0 p1 1 since fallen false 1 now _ hn hP6.out).mono ?_
  rintro e w7 ⟨xa1, ca1, rfl, ha1, hb1a, hc1a, hb7⟩
  obtain ⟨hcell7, hfr7⟩ := bcell hb7
  have hs7 := hb7.size
  (try simp only [World.size_alloc] at hs7)
  have y7_0 : w.heap.size < w7.heap.size := by omega
  have y7_1 : w.heap.size + 1 < w7.heap.size := by omega
  have y7_2 : w3.heap.size < w7.heap.size := by omega
  have y7_3 : w4.heap.size < w7.heap.size := by omega
  obtain rfl : ca1 = 0 := ha1.2 LA1.out
  obtain rfl : xa1 = l1 - usedZ false 0 since now := (hb1a LA1.out).trans Z1.out
  clear ha1 hb1a hc1a
  have hP7 := Lib.hid (hP6.out.below hb7)
  go_wp2_with fail
  refine (Left_any A n cap inc 0 ps l0 (l1 - usedZ false 0 since now) m0 m1 p0 p1 1 now fallen false 1 now _ hn hP7.out).mono ?_
  rintro e w8 ⟨xb1, cb1, rfl, ha1, hb1a, hc1a, hb8⟩
  obtain ⟨hcell8, hfr8⟩ := bcell hb8
  have hs8 := hb8.size
  (try simp only [World.size_alloc] at hs8)
  have y8_0 : w.heap.size < w8.heap.size := by omega
  have y8_1 : w.heap.size + 1 < w8.heap.size := by omega
  have y8_2 : w3.heap.size < w8.heap.size := by omega
  have y8_3 : w4.heap.size < w8.heap.size := by omega
  obtain rfl : cb1 = 0 := ha1.2 LB1.out
  obtain rfl : xb1 = l1 - usedZ false 0 since now := (hb1a LB1.out).trans Q1.out
  clear ha1 hb1a hc1a
  have hP8 := Lib.hid (hP7.out.below hb8)
  go_wp2_with fail
  rw [rounds_succ]
  go_wp2_with fail
  go_ret
  refine ⟨rfl, ?_⟩
  exact ((((((((hbel2.trans (hb3.mono (by omega))).alloc (by go_size) _).trans (hb4.mono (by go_size))).alloc (by go_size) _).trans (hb5.mono (by go_size))).trans (hb6.mono (by go_size))).trans (hb7.mono (by go_size))).trans (hb8.mono (by go_size)))

theorem walk (A : Option Addr) (n cap : Nat) (inc delay : Int) (ps : List (Int × Int)) (l0 l1 m0 m1 p0 p1 turn since fallen : Int) (st : Bool) (now : Int) (w : World) (hn : n ≤ 9223372036854775807) (hp : PerAt w w.heap.size A n ps) :
    Calls Try.prog 5 #[.agg #[.slice A n cap, .int .i64 inc, .int .i64 delay], .agg #[.int .i64 l0, .int .i64 l1, .int .i64 m0, .int .i64 m1, .int .i64 p0, .int .i64 p1, .int .i64 turn, .int .i64 since, .bool st, .int .i64 fallen], .int .i64 now] w fun e w' => e = .returned (.bool true) ∧ Below w.heap.size w w' := by
  by_cases h : RunOk n inc 0 ps l0 l1 m0 m1 p0 p1 turn since fallen st now
  · obtain ⟨hr, hk, hnow, hf, hu, rfl⟩ := h
    have ht : turn = 0 ∨ turn = 1 := by have := hk.1; omega
    rcases ht with rfl | rfl
    · exact walk_ok_0 A n cap inc delay ps l0 l1 m0 m1 p0 p1 since fallen now w hn hp hr hk hnow hf hu
    · exact walk_ok_1 A n cap inc delay ps l0 l1 m0 m1 p0 p1 since fallen now w hn hp hr hk hnow hf hu
  · exact walk_no A n cap inc delay ps l0 l1 m0 m1 p0 p1 turn since fallen st now w hn hp h

section
theorem own : ownKnob Try.prog.godebug = none := by kernel_rfl
theorem laidOut : laidOutB Try.prog = true := by kernel_rfl

set_option maxRecDepth 100000 in
theorem lifted (os : Os) (started : os.Started) (H : Type) (enc : TypeId × Value → H) :
    ReturnsInHanded {} Try.checked os 5 .any (Rows.clockAgainSpec.pre6 enc Try.prog Try.f5 Rows.clockAgainRow.domain false) (Rows.clockAgainSpec.post enc Try.prog Try.f5 false true false false) := by
  refine returnsInHanded_of_change (C := Try.checked) own started (by kernel_rfl) Try.func5
    (ChangeSpec.witness6 (enc := enc) (C := Try.checked) false ⟨#[], #[.agg #[.slice none 0 0, .int .i64 0, .int .i64 0], .agg #[.int .i64 0, .int .i64 0, .int .i64 0, .int .i64 0, .int .i64 0, .int .i64 0, .int .i64 0, .int .i64 0, .bool false, .int .i64 0], .int .i64 0], []⟩ 8 (by kernel_rfl) (by kernel_rfl) (by kernel_rfl) (by kernel_rfl)) ?_
  intro W base args ds gs before hval0 hW hcnd _
  have hval : ∀ (j : Nat) t v, Try.f5.params[j]? = some t → args[j]? = some v → Value.okWide Try.prog W .any base t v := hval0
  have hW' := hW
  obtain ⟨p, q, hA0, hV, rfl, hfz, hnd⟩ := hW
  have hA : DataW.TrodAll enc Try.prog W 0 (fun _ => true) true Try.f5.params.toList args.toList ds p := hA0
  rw [Try.params5] at hA hval
  have hAll := hA
  obtain ⟨v0, vs0, d0, ds0, p0, q0, hargs, rfl, rfl, h0, r0⟩ := trodAll_cons hA
  obtain ⟨v1, vs1, d1, ds1, p1, q1, rfl, rfl, rfl, h1, r1⟩ := trodAll_cons r0
  obtain ⟨v2, vs2, d2, ds2, p2, q2, rfl, rfl, rfl, h2, r2⟩ := trodAll_cons r1
  obtain ⟨rfl, rfl, rfl⟩ := trodAll_nil r2
  obtain rfl : args = #[v0, v1, v2] := by cases args; simp_all
  obtain ⟨rfl, rfl⟩ := trodVars_none hV
  obtain ⟨A, n, cap, inc, delay, ps, rfl, hn, hp⟩ := openR (hval 0 24 v0 rfl rfl) h0
  obtain ⟨l0, l1, m0, m1, p0, p1, turn, since, fallen, st, rfl⟩ := openC (hval 1 27 v1 rfl rfl)
  obtain ⟨a2, rfl, rfl, rfl, w2⟩ := open_int Try.underlying3 (hval 2 3 v2 rfl rfl) h2
  clear hA0 hval0
  refine (walk A n cap inc delay ps l0 l1 m0 m1 p0 p1 turn since fallen st a2 W hn hp).mono fun e W' ⟨he, bel⟩ => ?_
  subst he
  exact ⟨_, rfl, _, _, _, [], _, [], hW', trodAll_mk1 (shut_bool Try.underlying4 _), trodAll_stays laidOut bel (by kernel_rfl) hAll, rfl, bel.frame _, fun h => by cases h⟩

theorem over : Rows.clockAgainRow.holds Try.pinned (OpenSpec.ofChange Rows.clockAgainSpec) :=
  OpenClaim.holds_of_wide 5 Try.f5 rfl rfl rfl rfl rfl rfl rfl ⟨rfl, rfl, rfl, rfl, rfl⟩ rfl rfl rfl rfl rfl (by kernel_rfl) Try.func5 (by kernel_rfl)
    (of_decide_eq_true (by kernel_rfl)) (by unfold Func.isWrapper; first | (rw [if_pos (by decide +kernel)]; kernel_rfl) | (rw [if_neg (by decide +kernel)]; exact ⟨rfl, rfl⟩))
    (fun os started H enc _ => lifted os started H enc)

theorem proved : Rows.ClockAgainSaid := over
end
#print axioms proved
end Go.Proofs.Ytpcllegmdioafaa.clockAgain
