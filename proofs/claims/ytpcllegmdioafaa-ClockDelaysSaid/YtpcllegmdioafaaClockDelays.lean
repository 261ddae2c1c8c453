/- ClockDelays: with a greater delay nobody has less time after a move. For every input, no condition. -/
import Derived.Test.YtpcllegmdioafaaClkPressOk
import Derived.Test.YtpcllegmdioafaaClkRun
import Derived.Test.YtpcllegmdioafaaClkEq
namespace Go.Proofs.Ytpcllegmdioafaa.clockDelays
open Go.ChangeShapes Go.WideShapes Go.ChangeAt Go.RowKit
set_option linter.unusedVariables false


theorem arrSame (w : World) (a b : Int) : (binOp .eql 25 (.agg #[.int .i64 a, .int .i64 b]) (.agg #[.int .i64 a, .int .i64 b])).run Try.prog w = .ok (.bool true) w := by
  rw [run_eql_struct, eqArr w 9998 a b]
  rfl
theorem used_delay (a b since now : Int) (h : a ≤ b) : usedZ false b since now ≤ usedZ false a since now := by
  unfold usedZ; simp only [Bool.false_eq_true, if_false]; omega
theorem most_mono {a b : Int} (h : a ≤ b) : mostB a ≤ mostB b := by
  unfold mostB; split <;> split <;> omega
theorem press_mono (C : Prop) [Decidable C] {a b t : Int} (h : a ≤ b) : (if C then mostB (mostB a + t) else mostB a) ≤ (if C then mostB (mostB b + t) else mostB b) := by
  have := most_mono h
  split
  · exact most_mono (by omega)
  · exact this

theorem press_0 (A : Option Addr) (n cap : Nat) (inc delay : Int) (ps : List (Int × Int)) (l0 l1 m0 m1 p0 p1 since fallen : Int) (now : Int) (w : World) (hn : n ≤ 9223372036854775807) (hp : PerAt w w.heap.size A n ps) (hr : RuleOk n inc delay ps) (hk : ClkOk n l0 l1 m0 m1 p0 p1 0 since fallen) (e0 : witB now since 100000000 = true) (hf : fallen < 0) (hu : usedZ false delay since now ≤ l0) :
    Calls Try.prog 9 #[.agg #[.slice A n cap, .int .i64 inc, .int .i64 delay], .agg #[.int .i64 l0, .int .i64 l1, .int .i64 m0, .int .i64 m1, .int .i64 p0, .int .i64 p1, .int .i64 0, .int .i64 since, .bool false, .int .i64 fallen], .int .i64 now] w fun e w' => ∃ xl xm xp : Int, e = .returned (.tuple #[.agg #[.int .i64 xl, .int .i64 l1, .int .i64 xm, .int .i64 m1, .int .i64 xp, .int .i64 p1, .int .i64 1, .int .i64 now, .bool false, .int .i64 fallen], .int .i64 0]) ∧ Hid (xl = (if (0 < (ps.getD p0.toNat (0, 0)).1 ∧ (ps.getD p0.toNat (0, 0)).1 ≤ (madeB (m0 + 1))) then mostB ((mostB (l0 - usedZ false delay since now + inc)) + (ps.getD (p0.toNat + 1) (0, 0)).2) else (mostB (l0 - usedZ false delay since now + inc)))) ∧ Hid (xm = (if (0 < (ps.getD p0.toNat (0, 0)).1 ∧ (ps.getD p0.toNat (0, 0)).1 ≤ (madeB (m0 + 1))) then 0 else (madeB (m0 + 1)))) ∧ Below w.heap.size w w' :=
  (Press_ok_0 A n cap inc delay ps l0 l1 m0 m1 p0 p1 since fallen now w hn hp hr hk e0 hf hu).mono fun e w' h => ⟨_, _, _, h.1, Lib.hid rfl, Lib.hid rfl, h.2⟩

theorem press_1 (A : Option Addr) (n cap : Nat) (inc delay : Int) (ps : List (Int × Int)) (l0 l1 m0 m1 p0 p1 since fallen : Int) (now : Int) (w : World) (hn : n ≤ 9223372036854775807) (hp : PerAt w w.heap.size A n ps) (hr : RuleOk n inc delay ps) (hk : ClkOk n l0 l1 m0 m1 p0 p1 1 since fallen) (e0 : witB now since 100000000 = true) (hf : fallen < 0) (hu : usedZ false delay since now ≤ l1) :
    Calls Try.prog 9 #[.agg #[.slice A n cap, .int .i64 inc, .int .i64 delay], .agg #[.int .i64 l0, .int .i64 l1, .int .i64 m0, .int .i64 m1, .int .i64 p0, .int .i64 p1, .int .i64 1, .int .i64 since, .bool false, .int .i64 fallen], .int .i64 now] w fun e w' => ∃ xl xm xp : Int, e = .returned (.tuple #[.agg #[.int .i64 l0, .int .i64 xl, .int .i64 m0, .int .i64 xm, .int .i64 p0, .int .i64 xp, .int .i64 0, .int .i64 now, .bool false, .int .i64 fallen], .int .i64 0]) ∧ Hid (xl = (if (0 < (ps.getD p1.toNat (0, 0)).1 ∧ (ps.getD p1.toNat (0, 0)).1 ≤ (madeB (m1 + 1))) then mostB ((mostB (l1 - usedZ false delay since now + inc)) + (ps.getD (p1.toNat + 1) (0, 0)).2) else (mostB (l1 - usedZ false delay since now + inc)))) ∧ Hid (xm = (if (0 < (ps.getD p1.toNat (0, 0)).1 ∧ (ps.getD p1.toNat (0, 0)).1 ≤ (madeB (m1 + 1))) then 0 else (madeB (m1 + 1)))) ∧ Below w.heap.size w w' :=
  (Press_ok_1 A n cap inc delay ps l0 l1 m0 m1 p0 p1 since fallen now w hn hp hr hk e0 hf hu).mono fun e w' h => ⟨_, _, _, h.1, Lib.hid rfl, Lib.hid rfl, h.2⟩

set_option maxRecDepth 100000 in
set_option maxHeartbeats 4000000 in
theorem walk_no (A : Option Addr) (n cap : Nat) (inc delay : Int) (ps : List (Int × Int)) (l0 l1 m0 m1 p0 p1 turn since fallen : Int) (st : Bool) (more now : Int) (w : World) (hn : n ≤ 9223372036854775807) (hp : PerAt w w.heap.size A n ps) (h : ¬ RunOk n inc delay ps l0 l1 m0 m1 p0 p1 turn since fallen st now) :
    Calls Try.prog 4 #[.agg #[.slice A n cap, .int .i64 inc, .int .i64 delay], .agg #[.int .i64 l0, .int .i64 l1, .int .i64 m0, .int .i64 m1, .int .i64 p0, .int .i64 p1, .int .i64 turn, .int .i64 since, .bool st, .int .i64 fallen], .int .i64 more, .int .i64 now] w fun e w' => e = .returned (.bool true) ∧ Below w.heap.size w w' := by
  have H := Lib.hid h
  clear h
  have hzz := zeroClk
  have hP := Lib.hid ((hp.alloc (.cells #[.slice A n cap, .int .i64 inc, .int .i64 delay] 24)).alloc (.cells #[.int .i64 l0, .int .i64 l1, .int .i64 m0, .int .i64 m1, .int .i64 p0, .int .i64 p1, .int .i64 turn, .int .i64 since, .bool st, .int .i64 fallen] 27))
  clear hp
  go_enter Try.func4, Try.ntmps4
  go_wp2_with fail
  refine (ticks_any _).mono ?_
  rintro e w1 ⟨rfl, hb⟩
  obtain ⟨hcell, hfr⟩ := bcell hb
  have hs := hb.size
  (try simp only [World.size_alloc] at hs)
  have hz0 : w.heap.size < w1.heap.size := by omega
  have hz1 : w.heap.size + 1 < w1.heap.size := by omega
  have hbel := (((Below.refl w.heap.size w).alloc (by go_size) _).alloc (by go_size) _).trans (hb.mono (by go_size))
  have hP1 := Lib.hid (hP.out.below hb)
  go_wp2_with fail
  refine (Press_no A n cap inc delay ps l0 l1 m0 m1 p0 p1 turn since fallen st now H.out _ hn hP1.out).mono ?_
  rintro e w2 ⟨c, hc, rfl, hb2⟩
  have h1 : (c != 0) = true := by simpa using hc
  have hs2 := hb2.size
  clear hc
  have hbel3 : Below w.heap.size w w2 := hbel.trans (hb2.mono (by omega))
  go_wp2
  go_ret
  refine ⟨rfl, ?_⟩
  go_grown

set_option maxRecDepth 100000 in
set_option maxHeartbeats 4000000 in
theorem walk_ok_0 (A : Option Addr) (n cap : Nat) (inc delay : Int) (ps : List (Int × Int)) (l0 l1 m0 m1 p0 p1 since fallen : Int) (more now q1 q2 D : Int) (w : World) (hn : n ≤ 9223372036854775807) (hp : PerAt w w.heap.size A n ps) (hq1 : (if (1000 : Int) < more then 1000 else more) = q1) (hq2 : (if (0 : Int) < q1 then q1 else 0) = q2) (hq3 : (if (100000000 : Int) < delay + q2 then 100000000 else delay + q2) = D) (hr : RuleOk n inc delay ps) (hk : ClkOk n l0 l1 m0 m1 p0 p1 0 since fallen) (hnow : since ≤ now ∧ now ≤ 100000000) (hf : fallen < 0) (hu : usedZ false delay since now ≤ l0) :
    Calls Try.prog 4 #[.agg #[.slice A n cap, .int .i64 inc, .int .i64 delay], .agg #[.int .i64 l0, .int .i64 l1, .int .i64 m0, .int .i64 m1, .int .i64 p0, .int .i64 p1, .int .i64 0, .int .i64 since, .bool false, .int .i64 fallen], .int .i64 more, .int .i64 now] w fun e w' => e = .returned (.bool true) ∧ Below w.heap.size w w' := by
  have hdl := hr.2.2.1
  have hqb : 0 ≤ q2 ∧ q2 ≤ 1000 := by
    rw [← hq2, ← hq1]; constructor <;> (repeat' split) <;> omega
  have hDb : delay ≤ D ∧ D ≤ 100000000 := by
    rw [← hq3]; constructor <;> split <;> omega
  have e0 : witB now since 100000000 = true := witB_true hnow
  have hr2 : RuleOk n inc D ps := ⟨hr.1, hr.2.1, by omega, hr.2.2.2⟩
  have hue := used_delay delay D since now hDb.1
  have hu2 : usedZ false D since now ≤ l0 := by omega
  have hsm : ∀ (a : Int) (w : World), (binOp .eql 25 (.agg #[.int .i64 a, .int .i64 m1]) (.agg #[.int .i64 a, .int .i64 m1])).run Try.prog w = .ok (.bool true) w := fun a w => arrSame w _ _
  have Hsm := Lib.hid hsm
  have Hue := Lib.hid hue
  have H := Lib.hid hr
  have H2 := Lib.hid hr2
  have HK := Lib.hid hk
  have Hu := Lib.hid hu
  have Hu2 := Lib.hid hu2
  clear hr hr2 hk hu hu2 hue hsm
  have hP := Lib.hid ((hp.alloc (.cells #[.slice A n cap, .int .i64 inc, .int .i64 delay] 24)).alloc (.cells #[.int .i64 l0, .int .i64 l1, .int .i64 m0, .int .i64 m1, .int .i64 p0, .int .i64 p1, .int .i64 0, .int .i64 since, .bool false, .int .i64 fallen] 27))
  clear hp
  go_enter Try.func4, Try.ntmps4
  go_wp2_with fail
  refine (ticks_any _).mono ?_
  rintro e w1 ⟨rfl, hb⟩
  obtain ⟨hcell, hfr⟩ := bcell hb
  have hs := hb.size
  (try simp only [World.size_alloc] at hs)
  have hz0 : w.heap.size < w1.heap.size := by omega
  have hz1 : w.heap.size + 1 < w1.heap.size := by omega
  have hbel := (((Below.refl w.heap.size w).alloc (by go_size) _).alloc (by go_size) _).trans (hb.mono (by go_size))
  have hP1 := Lib.hid (hP.out.below hb)
  go_wp2_with fail
  refine (press_0 A n cap inc delay ps l0 l1 m0 m1 p0 p1 since fallen now _ hn hP1.out H.out HK.out e0 hf Hu.out).mono ?_
  rintro e w2 ⟨xl, xm, xp, rfl, Hxl, Hxm, hb2⟩
  obtain ⟨hcell2, hfr2⟩ := bcell hb2
  have hs2 := hb2.size
  have y2_0 : w.heap.size < w2.heap.size := by omega
  have y2_1 : w.heap.size + 1 < w2.heap.size := by omega
  have hwr : IntKind.i64.wrap (delay + q2) = delay + q2 := IntWalk.i64_in _ (by omega)
  have hbel2 : Below w.heap.size w w2 := hbel.trans (hb2.mono (by omega))
  go_upto_region 8 with (fail)
  generalize hW : (w2.alloc (.cells #[.int .i64 xl, .int .i64 l1, .int .i64 xm, .int .i64 m1, .int .i64 xp, .int .i64 p1, .int .i64 1, .int .i64 now, .bool false, .int .i64 fallen] 27)).alloc (.cells #[.slice A n cap, .int .i64 inc, .int .i64 D] 24) = w3
  have hg3 : Below w2.heap.size w2 w3 := by rw [← hW]; go_grown
  have r0 : w3.cell? ⟨w2.heap.size + 1, 0, none⟩ = some (.slice A n cap) := by rw [← hW]; simp [go_sem]
  have r1 : w3.cell? ⟨w2.heap.size + 1, 1, none⟩ = some (.int .i64 inc) := by rw [← hW]; simp [go_sem]
  have r2 : w3.cell? ⟨w2.heap.size + 1, 2, none⟩ = some (.int .i64 D) := by rw [← hW]; simp [go_sem]
  have c0 : w3.cell? ⟨w.heap.size + 1, 0, none⟩ = some (.int .i64 l0) := by rw [hg3.cell (by exact y2_1), hcell2 _ _ (by omega)]; simp [hcell, go_sem]
  have c1 : w3.cell? ⟨w.heap.size + 1, 1, none⟩ = some (.int .i64 l1) := by rw [hg3.cell (by exact y2_1), hcell2 _ _ (by omega)]; simp [hcell, go_sem]
  have c2 : w3.cell? ⟨w.heap.size + 1, 2, none⟩ = some (.int .i64 m0) := by rw [hg3.cell (by exact y2_1), hcell2 _ _ (by omega)]; simp [hcell, go_sem]
  have c3 : w3.cell? ⟨w.heap.size + 1, 3, none⟩ = some (.int .i64 m1) := by rw [hg3.cell (by exact y2_1), hcell2 _ _ (by omega)]; simp [hcell, go_sem]
  have c4 : w3.cell? ⟨w.heap.size + 1, 4, none⟩ = some (.int .i64 p0) := by rw [hg3.cell (by exact y2_1), hcell2 _ _ (by omega)]; simp [hcell, go_sem]
  have c5 : w3.cell? ⟨w.heap.size + 1, 5, none⟩ = some (.int .i64 p1) := by rw [hg3.cell (by exact y2_1), hcell2 _ _ (by omega)]; simp [hcell, go_sem]
  have c6 : w3.cell? ⟨w.heap.size + 1, 6, none⟩ = some (.int .i64 0) := by rw [hg3.cell (by exact y2_1), hcell2 _ _ (by omega)]; simp [hcell, go_sem]
  have c7 : w3.cell? ⟨w.heap.size + 1, 7, none⟩ = some (.int .i64 since) := by rw [hg3.cell (by exact y2_1), hcell2 _ _ (by omega)]; simp [hcell, go_sem]
  have c8 : w3.cell? ⟨w.heap.size + 1, 8, none⟩ = some (.bool false) := by rw [hg3.cell (by exact y2_1), hcell2 _ _ (by omega)]; simp [hcell, go_sem]
  have c9 : w3.cell? ⟨w.heap.size + 1, 9, none⟩ = some (.int .i64 fallen) := by rw [hg3.cell (by exact y2_1), hcell2 _ _ (by omega)]; simp [hcell, go_sem]
  have x0 : w3.cell? ⟨w2.heap.size, 0, none⟩ = some (.int .i64 xl) := by rw [← hW]; simp [go_sem]
  have x1 : w3.cell? ⟨w2.heap.size, 1, none⟩ = some (.int .i64 l1) := by rw [← hW]; simp [go_sem]
  have x2 : w3.cell? ⟨w2.heap.size, 2, none⟩ = some (.int .i64 xm) := by rw [← hW]; simp [go_sem]
  have x3 : w3.cell? ⟨w2.heap.size, 3, none⟩ = some (.int .i64 m1) := by rw [← hW]; simp [go_sem]
  have x4 : w3.cell? ⟨w2.heap.size, 4, none⟩ = some (.int .i64 xp) := by rw [← hW]; simp [go_sem]
  have x5 : w3.cell? ⟨w2.heap.size, 5, none⟩ = some (.int .i64 p1) := by rw [← hW]; simp [go_sem]
  have x6 : w3.cell? ⟨w2.heap.size, 6, none⟩ = some (.int .i64 1) := by rw [← hW]; simp [go_sem]
  have x7 : w3.cell? ⟨w2.heap.size, 7, none⟩ = some (.int .i64 now) := by rw [← hW]; simp [go_sem]
  have x8 : w3.cell? ⟨w2.heap.size, 8, none⟩ = some (.bool false) := by rw [← hW]; simp [go_sem]
  have x9 : w3.cell? ⟨w2.heap.size, 9, none⟩ = some (.int .i64 fallen) := by rw [← hW]; simp [go_sem]
  have hs3 : w3.heap.size = w2.heap.size + 1 + 1 := by rw [← hW]; simp
  have y3_0 : w.heap.size < w3.heap.size := by omega
  have y3_1 : w.heap.size + 1 < w3.heap.size := by omega
  have y3_2 : w2.heap.size < w3.heap.size := by omega
  have y3_3 : w2.heap.size + 1 < w3.heap.size := by omega
  have hP3 := Lib.hid (((hP1.out.below hb2).mono (Nat.le_of_lt y3_2) (fun q hq => hg3.cell hq)))
  have hbel3 : Below w.heap.size w w3 := hbel2.trans (hg3.mono (by omega))
  clear hW hcell hcell2 hfr hfr2
  go_wp2_with fail
  refine (press_0 A n cap inc D ps l0 l1 m0 m1 p0 p1 since fallen now _ hn hP3.out H2.out HK.out e0 hf Hu2.out).mono ?_
  rintro e w4 ⟨yl, ym, yp, rfl, Hyl, Hym, hb4⟩
  obtain rfl : ym = xm := Hym.out.trans Hxm.out.symm
  have hle : xl ≤ yl := by
    rw [Hxl.out, Hyl.out]
    have := Hue.out
    exact press_mono _ (by omega)
  have hsm := Hsm.out ym
  obtain ⟨hcell4, hfr4⟩ := bcell hb4
  have hs4 := hb4.size
  have d6 : w4.cell? ⟨w.heap.size + 1, 6, none⟩ = some (.int .i64 0) := by rw [hcell4 _ _ (by omega)]; exact c6
  have z0 : w4.cell? ⟨w2.heap.size, 0, none⟩ = some (.int .i64 xl) := by rw [hcell4 _ _ (by omega)]; exact x0
  have z1 : w4.cell? ⟨w2.heap.size, 1, none⟩ = some (.int .i64 l1) := by rw [hcell4 _ _ (by omega)]; exact x1
  have z2 : w4.cell? ⟨w2.heap.size, 2, none⟩ = some (.int .i64 ym) := by rw [hcell4 _ _ (by omega)]; exact x2
  have z3 : w4.cell? ⟨w2.heap.size, 3, none⟩ = some (.int .i64 m1) := by rw [hcell4 _ _ (by omega)]; exact x3
  have z4 : w4.cell? ⟨w2.heap.size, 4, none⟩ = some (.int .i64 xp) := by rw [hcell4 _ _ (by omega)]; exact x4
  have z5 : w4.cell? ⟨w2.heap.size, 5, none⟩ = some (.int .i64 p1) := by rw [hcell4 _ _ (by omega)]; exact x5
  have z6 : w4.cell? ⟨w2.heap.size, 6, none⟩ = some (.int .i64 1) := by rw [hcell4 _ _ (by omega)]; exact x6
  have z7 : w4.cell? ⟨w2.heap.size, 7, none⟩ = some (.int .i64 now) := by rw [hcell4 _ _ (by omega)]; exact x7
  have z8 : w4.cell? ⟨w2.heap.size, 8, none⟩ = some (.bool false) := by rw [hcell4 _ _ (by omega)]; exact x8
  have z9 : w4.cell? ⟨w2.heap.size, 9, none⟩ = some (.int .i64 fallen) := by rw [hcell4 _ _ (by omega)]; exact x9
  have y4_0 : w.heap.size < w4.heap.size := by omega
  have y4_1 : w.heap.size + 1 < w4.heap.size := by omega
  have y4_2 : w2.heap.size < w4.heap.size := by omega
  have hbel4 : Below w.heap.size w w4 := hbel3.trans (hb4.mono (by omega))
  clear hcell4 hfr4
  go_upto_region 9 with (fail)
  generalize hW5 : w4.alloc (.cells #[.int .i64 yl, .int .i64 l1, .int .i64 ym, .int .i64 m1, .int .i64 yp, .int .i64 p1, .int .i64 1, .int .i64 now, .bool false, .int .i64 fallen] 27) = w5
  have hbel5 : Below w.heap.size w w5 := by rw [← hW5]; go_grown
  have hs5 : w5.heap.size = w4.heap.size + 1 := by rw [← hW5]; simp
  have hg5 : Below w4.heap.size w4 w5 := by rw [← hW5]; go_grown
  have t6 : w5.cell? ⟨w.heap.size + 1, 6, none⟩ = some (.int .i64 0) := (hg5.cell (by exact y4_1)).trans d6
  have s0 : w5.cell? ⟨w2.heap.size, 0, none⟩ = some (.int .i64 xl) := (hg5.cell (by exact y4_2)).trans z0
  have s1 : w5.cell? ⟨w2.heap.size, 1, none⟩ = some (.int .i64 l1) := (hg5.cell (by exact y4_2)).trans z1
  have s2 : w5.cell? ⟨w2.heap.size, 2, none⟩ = some (.int .i64 ym) := (hg5.cell (by exact y4_2)).trans z2
  have s3 : w5.cell? ⟨w2.heap.size, 3, none⟩ = some (.int .i64 m1) := (hg5.cell (by exact y4_2)).trans z3
  have o0 : w5.cell? ⟨w4.heap.size, 0, none⟩ = some (.int .i64 yl) := by rw [← hW5]; simp [go_sem]
  have o1 : w5.cell? ⟨w4.heap.size, 1, none⟩ = some (.int .i64 l1) := by rw [← hW5]; simp [go_sem]
  have o2 : w5.cell? ⟨w4.heap.size, 2, none⟩ = some (.int .i64 ym) := by rw [← hW5]; simp [go_sem]
  have o3 : w5.cell? ⟨w4.heap.size, 3, none⟩ = some (.int .i64 m1) := by rw [← hW5]; simp [go_sem]
  have y5_0 : w.heap.size + 1 < w5.heap.size := by omega
  have y5_1 : w2.heap.size < w5.heap.size := by omega
  have y5_2 : w4.heap.size < w5.heap.size := by omega
  clear hW5 hg5 d6 z0 z1 z2 z3 z4 z5 z6 z7 z8 z9
  clear r0 r1 r2 c0 c1 c2 c3 c4 c5 c6 c7 c8 c9 x0 x1 x2 x3 x4 x5 x6 x7 x8 x9
  clear hq1 hq2 hq3 hwr hs hs2 hs3 hs4 hbel2 hbel3 hbel4 hb4 hP3 hg3 hb2 hP1 hb
  go_quiet (fail)
  go_wp2
  go_ret
  refine ⟨rfl, ?_⟩
  exact ⟨hbel5.os, hbel5.tape, hbel5.output, hbel5.size, hbel5.block⟩

set_option maxRecDepth 100000 in
set_option maxHeartbeats 4000000 in
theorem walk_ok_1 (A : Option Addr) (n cap : Nat) (inc delay : Int) (ps : List (Int × Int)) (l0 l1 m0 m1 p0 p1 since fallen : Int) (more now q1 q2 D : Int) (w : World) (hn : n ≤ 9223372036854775807) (hp : PerAt w w.heap.size A n ps) (hq1 : (if (1000 : Int) < more then 1000 else more) = q1) (hq2 : (if (0 : Int) < q1 then q1 else 0) = q2) (hq3 : (if (100000000 : Int) < delay + q2 then 100000000 else delay + q2) = D) (hr : RuleOk n inc delay ps) (hk : ClkOk n l0 l1 m0 m1 p0 p1 1 since fallen) (hnow : since ≤ now ∧ now ≤ 100000000) (hf : fallen < 0) (hu : usedZ false delay since now ≤ l1) :
    Calls Try.prog 4 #[.agg #[.slice A n cap, .int .i64 inc, .int .i64 delay], .agg #[.int .i64 l0, .int .i64 l1, .int .i64 m0, .int .i64 m1, .int .i64 p0, .int .i64 p1, .int .i64 1, .int .i64 since, .bool false, .int .i64 fallen], .int .i64 more, .int .i64 now] w fun e w' => e = .returned (.bool true) ∧ Below w.heap.size w w' := by
  have hdl := hr.2.2.1
  have hqb : 0 ≤ q2 ∧ q2 ≤ 1000 := by
    rw [← hq2, ← hq1]; constructor <;> (repeat' split) <;> omega
  have hDb : delay ≤ D ∧ D ≤ 100000000 := by
    rw [← hq3]; constructor <;> split <;> omega
  have e0 : witB now since 100000000 = true := witB_true hnow
  have hr2 : RuleOk n inc D ps := ⟨hr.1, hr.2.1, by omega, hr.2.2.2⟩
  have hue := used_delay delay D since now hDb.1
  have hu2 : usedZ false D since now ≤ l1 := by omega
  have hsm : ∀ (a : Int) (w : World), (binOp .eql 25 (.agg #[.int .i64 m0, .int .i64 a]) (.agg #[.int .i64 m0, .int .i64 a])).run Try.prog w = .ok (.bool true) w := fun a w => arrSame w _ _
  have Hsm := Lib.hid hsm
  have Hue := Lib.hid hue
  have H := Lib.hid hr
  have H2 := Lib.hid hr2
  have HK := Lib.hid hk
  have Hu := Lib.hid hu
  have Hu2 := Lib.hid hu2
  clear hr hr2 hk hu hu2 hue hsm
  have hP := Lib.hid ((hp.alloc (.cells #[.slice A n cap, .int .i64 inc, .int .i64 delay] 24)).alloc (.cells #[.int .i64 l0, .int .i64 l1, .int .i64 m0, .int .i64 m1, .int .i64 p0, .int .i64 p1, .int .i64 1, .int .i64 since, .bool false, .int .i64 fallen] 27))
  clear hp
  go_enter Try.func4, Try.ntmps4
  go_wp2_with fail
  refine (ticks_any _).mono ?_
  rintro e w1 ⟨rfl, hb⟩
  obtain ⟨hcell, hfr⟩ := bcell hb
  have hs := hb.size
  (try simp only [World.size_alloc] at hs)
  have hz0 : w.heap.size < w1.heap.size := by omega
  have hz1 : w.heap.size + 1 < w1.heap.size := by omega
  have hbel := (((Below.refl w.heap.size w).alloc (by go_size) _).alloc (by go_size) _).trans (hb.mono (by go_size))
  have hP1 := Lib.hid (hP.out.below hb)
  go_wp2_with fail
  refine (press_1 A n cap inc delay ps l0 l1 m0 m1 p0 p1 since fallen now _ hn hP1.out H.out HK.out e0 hf Hu.out).mono ?_
  rintro e w2 ⟨xl, xm, xp, rfl, Hxl, Hxm, hb2⟩
  obtain ⟨hcell2, hfr2⟩ := bcell hb2
  have hs2 := hb2.size
  have y2_0 : w.heap.size < w2.heap.size := by omega
  have y2_1 : w.heap.size + 1 < w2.heap.size := by omega
  have hwr : IntKind.i64.wrap (delay + q2) = delay + q2 := IntWalk.i64_in _ (by omega)
  have hbel2 : Below w.heap.size w w2 := hbel.trans (hb2.mono (by omega))
  go_upto_region 8 with (fail)
  generalize hW : (w2.alloc (.cells #[.int .i64 l0, .int .i64 xl, .int .i64 m0, .int .i64 xm, .int .i64 p0, .int .i64 xp, .int .i64 0, .int .i64 now, .bool false, .int .i64 fallen] 27)).alloc (.cells #[.slice A n cap, .int .i64 inc, .int .i64 D] 24) = w3
  have hg3 : Below w2.heap.size w2 w3 := by rw [← hW]; go_grown
  have r0 : w3.cell? ⟨w2.heap.size + 1, 0, none⟩ = some (.slice A n cap) := by rw [← hW]; simp [go_sem]
  have r1 : w3.cell? ⟨w2.heap.size + 1, 1, none⟩ = some (.int .i64 inc) := by rw [← hW]; simp [go_sem]
  have r2 : w3.cell? ⟨w2.heap.size + 1, 2, none⟩ = some (.int .i64 D) := by rw [← hW]; simp [go_sem]
  have c0 : w3.cell? ⟨w.heap.size + 1, 0, none⟩ = some (.int .i64 l0) := by rw [hg3.cell (by exact y2_1), hcell2 _ _ (by omega)]; simp [hcell, go_sem]
  have c1 : w3.cell? ⟨w.heap.size + 1, 1, none⟩ = some (.int .i64 l1) := by rw [hg3.cell (by exact y2_1), hcell2 _ _ (by omega)]; simp [hcell, go_sem]
  have c2 : w3.cell? ⟨w.heap.size + 1, 2, none⟩ = some (.int .i64 m0) := by rw [hg3.cell (by exact y2_1), hcell2 _ _ (by omega)]; simp [hcell, go_sem]
  have c3 : w3.cell? ⟨w.heap.size + 1, 3, none⟩ = some (.int .i64 m1) := by rw [hg3.cell (by exact y2_1), hcell2 _ _ (by omega)]; simp [hcell, go_sem]
  have c4 : w3.cell? ⟨w.heap.size + 1, 4, none⟩ = some (.int .i64 p0) := by rw [hg3.cell (by exact y2_1), hcell2 _ _ (by omega)]; simp [hcell, go_sem]
  have c5 : w3.cell? ⟨w.heap.size + 1, 5, none⟩ = some (.int .i64 p1) := by rw [hg3.cell (by exact y2_1), hcell2 _ _ (by omega)]; simp [hcell, go_sem]
  have c6 : w3.cell? ⟨w.heap.size + 1, 6, none⟩ = some (.int .i64 1) := by rw [hg3.cell (by exact y2_1), hcell2 _ _ (by omega)]; simp [hcell, go_sem]
  have c7 : w3.cell? ⟨w.heap.size + 1, 7, none⟩ = some (.int .i64 since) := by rw [hg3.cell (by exact y2_1), hcell2 _ _ (by omega)]; simp [hcell, go_sem]
  have c8 : w3.cell? ⟨w.heap.size + 1, 8, none⟩ = some (.bool false) := by rw [hg3.cell (by exact y2_1), hcell2 _ _ (by omega)]; simp [hcell, go_sem]
  have c9 : w3.cell? ⟨w.heap.size + 1, 9, none⟩ = some (.int .i64 fallen) := by rw [hg3.cell (by exact y2_1), hcell2 _ _ (by omega)]; simp [hcell, go_sem]
  have x0 : w3.cell? ⟨w2.heap.size, 0, none⟩ = some (.int .i64 l0) := by rw [← hW]; simp [go_sem]
  have x1 : w3.cell? ⟨w2.heap.size, 1, none⟩ = some (.int .i64 xl) := by rw [← hW]; simp [go_sem]
  have x2 : w3.cell? ⟨w2.heap.size, 2, none⟩ = some (.int .i64 m0) := by rw [← hW]; simp [go_sem]
  have x3 : w3.cell? ⟨w2.heap.size, 3, none⟩ = some (.int .i64 xm) := by rw [← hW]; simp [go_sem]
  have x4 : w3.cell? ⟨w2.heap.size, 4, none⟩ = some (.int .i64 p0) := by rw [← hW]; simp [go_sem]
  have x5 : w3.cell? ⟨w2.heap.size, 5, none⟩ = some (.int .i64 xp) := by rw [← hW]; simp [go_sem]
  have x6 : w3.cell? ⟨w2.heap.size, 6, none⟩ = some (.int .i64 0) := by rw [← hW]; simp [go_sem]
  have x7 : w3.cell? ⟨w2.heap.size, 7, none⟩ = some (.int .i64 now) := by rw [← hW]; simp [go_sem]
  have x8 : w3.cell? ⟨w2.heap.size, 8, none⟩ = some (.bool false) := by rw [← hW]; simp [go_sem]
  have x9 : w3.cell? ⟨w2.heap.size, 9, none⟩ = some (.int .i64 fallen) := by rw [← hW]; simp [go_sem]
  have hs3 : w3.heap.size = w2.heap.size + 1 + 1 := by rw [← hW]; simp
  have y3_0 : w.heap.size < w3.heap.size := by omega
  have y3_1 : w.heap.size + 1 < w3.heap.size := by omega
  have y3_2 : w2.heap.size < w3.heap.size := by omega
  have y3_3 : w2.heap.size + 1 < w3.heap.size := by omega
  have hP3 := Lib.hid (((hP1.out.below hb2).mono (Nat.le_of_lt y3_2) (fun q hq => hg3.cell hq)))
  have hbel3 : Below w.heap.size w w3 := hbel2.trans (hg3.mono (by omega))
  clear hW hcell hcell2 hfr hfr2
  go_wp2_with fail
  refine (press_1 A n cap inc D ps l0 l1 m0 m1 p0 p1 since fallen now _ hn hP3.out H2.out HK.out e0 hf Hu2.out).mono ?_
  rintro e w4 ⟨yl, ym, yp, rfl, Hyl, Hym, hb4⟩
  obtain rfl : ym = xm := Hym.out.trans Hxm.out.symm
  have hle : xl ≤ yl := by
    rw [Hxl.out, Hyl.out]
    have := Hue.out
    exact press_mono _ (by omega)
  have hsm := Hsm.out ym
  obtain ⟨hcell4, hfr4⟩ := bcell hb4
  have hs4 := hb4.size
  have d6 : w4.cell? ⟨w.heap.size + 1, 6, none⟩ = some (.int .i64 1) := by rw [hcell4 _ _ (by omega)]; exact c6
  have z0 : w4.cell? ⟨w2.heap.size, 0, none⟩ = some (.int .i64 l0) := by rw [hcell4 _ _ (by omega)]; exact x0
  have z1 : w4.cell? ⟨w2.heap.size, 1, none⟩ = some (.int .i64 xl) := by rw [hcell4 _ _ (by omega)]; exact x1
  have z2 : w4.cell? ⟨w2.heap.size, 2, none⟩ = some (.int .i64 m0) := by rw [hcell4 _ _ (by omega)]; exact x2
  have z3 : w4.cell? ⟨w2.heap.size, 3, none⟩ = some (.int .i64 ym) := by rw [hcell4 _ _ (by omega)]; exact x3
  have z4 : w4.cell? ⟨w2.heap.size, 4, none⟩ = some (.int .i64 p0) := by rw [hcell4 _ _ (by omega)]; exact x4
  have z5 : w4.cell? ⟨w2.heap.size, 5, none⟩ = some (.int .i64 xp) := by rw [hcell4 _ _ (by omega)]; exact x5
  have z6 : w4.cell? ⟨w2.heap.size, 6, none⟩ = some (.int .i64 0) := by rw [hcell4 _ _ (by omega)]; exact x6
  have z7 : w4.cell? ⟨w2.heap.size, 7, none⟩ = some (.int .i64 now) := by rw [hcell4 _ _ (by omega)]; exact x7
  have z8 : w4.cell? ⟨w2.heap.size, 8, none⟩ = some (.bool false) := by rw [hcell4 _ _ (by omega)]; exact x8
  have z9 : w4.cell? ⟨w2.heap.size, 9, none⟩ = some (.int .i64 fallen) := by rw [hcell4 _ _ (by omega)]; exact x9
  have y4_0 : w.heap.size < w4.heap.size := by omega
  have y4_1 : w.heap.size + 1 < w4.heap.size := by omega
  have y4_2 : w2.heap.size < w4.heap.size := by omega
  have hbel4 : Below w.heap.size w w4 := hbel3.trans (hb4.mono (by omega))
  clear hcell4 hfr4
  go_upto_region 9 with (fail)
  generalize hW5 : w4.alloc (.cells #[.int .i64 l0, .int .i64 yl, .int .i64 m0, .int .i64 ym, .int .i64 p0, .int .i64 yp, .int .i64 0, .int .i64 now, .bool false, .int .i64 fallen] 27) = w5
  have hbel5 : Below w.heap.size w w5 := by rw [← hW5]; go_grown
  have hs5 : w5.heap.size = w4.heap.size + 1 := by rw [← hW5]; simp
  have hg5 : Below w4.heap.size w4 w5 := by rw [← hW5]; go_grown
  have t6 : w5.cell? ⟨w.heap.size + 1, 6, none⟩ = some (.int .i64 1) := (hg5.cell (by exact y4_1)).trans d6
  have s0 : w5.cell? ⟨w2.heap.size, 0, none⟩ = some (.int .i64 l0) := (hg5.cell (by exact y4_2)).trans z0
  have s1 : w5.cell? ⟨w2.heap.size, 1, none⟩ = some (.int .i64 xl) := (hg5.cell (by exact y4_2)).trans z1
  have s2 : w5.cell? ⟨w2.heap.size, 2, none⟩ = some (.int .i64 m0) := (hg5.cell (by exact y4_2)).trans z2
  have s3 : w5.cell? ⟨w2.heap.size, 3, none⟩ = some (.int .i64 ym) := (hg5.cell (by exact y4_2)).trans z3
  have o0 : w5.cell? ⟨w4.heap.size, 0, none⟩ = some (.int .i64 l0) := by rw [← hW5]; simp [go_sem]
  have o1 : w5.cell? ⟨w4.heap.size, 1, none⟩ = some (.int .i64 yl) := by rw [← hW5]; simp [go_sem]
  have o2 : w5.cell? ⟨w4.heap.size, 2, none⟩ = some (.int .i64 m0) := by rw [← hW5]; simp [go_sem]
  have o3 : w5.cell? ⟨w4.heap.size, 3, none⟩ = some (.int .i64 ym) := by rw [← hW5]; simp [go_sem]
  have y5_0 : w.heap.size + 1 < w5.heap.size := by omega
  have y5_1 : w2.heap.size < w5.heap.size := by omega
  have y5_2 : w4.heap.size < w5.heap.size := by omega
  clear hW5 hg5 d6 z0 z1 z2 z3 z4 z5 z6 z7 z8 z9
  clear r0 r1 r2 c0 c1 c2 c3 c4 c5 c6 c7 c8 c9 x0 x1 x2 x3 x4 x5 x6 x7 x8 x9
  clear hq1 hq2 hq3 hwr hs hs2 hs3 hs4 hbel2 hbel3 hbel4 hb4 hP3 hg3 hb2 hP1 hb
  go_quiet (fail)
  go_wp2
  go_ret
  refine ⟨rfl, ?_⟩
  exact ⟨hbel5.os, hbel5.tape, hbel5.output, hbel5.size, hbel5.block⟩

theorem walk (A : Option Addr) (n cap : Nat) (inc delay : Int) (ps : List (Int × Int)) (l0 l1 m0 m1 p0 p1 turn since fallen : Int) (st : Bool) (more now : Int) (w : World) (hn : n ≤ 9223372036854775807) (hp : PerAt w w.heap.size A n ps) :
    Calls Try.prog 4 #[.agg #[.slice A n cap, .int .i64 inc, .int .i64 delay], .agg #[.int .i64 l0, .int .i64 l1, .int .i64 m0, .int .i64 m1, .int .i64 p0, .int .i64 p1, .int .i64 turn, .int .i64 since, .bool st, .int .i64 fallen], .int .i64 more, .int .i64 now] w fun e w' => e = .returned (.bool true) ∧ Below w.heap.size w w' := by
  by_cases h : RunOk n inc delay ps l0 l1 m0 m1 p0 p1 turn since fallen st now
  · obtain ⟨hr, hk, hnow, hf, hu, rfl⟩ := h
    have ht : turn = 0 ∨ turn = 1 := by have := hk.1; omega
    rcases ht with rfl | rfl
    · exact walk_ok_0 A n cap inc delay ps l0 l1 m0 m1 p0 p1 since fallen more now _ _ _ w hn hp rfl rfl rfl hr hk hnow hf hu
    · exact walk_ok_1 A n cap inc delay ps l0 l1 m0 m1 p0 p1 since fallen more now _ _ _ w hn hp rfl rfl rfl hr hk hnow hf hu
  · exact walk_no A n cap inc delay ps l0 l1 m0 m1 p0 p1 turn since fallen st more now w hn hp h

section
theorem own : ownKnob Try.prog.godebug = none := by kernel_rfl
theorem laidOut : laidOutB Try.prog = true := by kernel_rfl

set_option maxRecDepth 100000 in
theorem lifted (os : Os) (started : os.Started) (H : Type) (enc : TypeId × Value → H) :
    ReturnsInHanded {} Try.checked os 4 .any (Rows.clockDelaysSpec.pre6 enc Try.prog Try.f4 Rows.clockDelaysRow.domain false) (Rows.clockDelaysSpec.post enc Try.prog Try.f4 false true false false) := by
  refine returnsInHanded_of_change (C := Try.checked) own started (by kernel_rfl) Try.func4
    (ChangeSpec.witness6 (enc := enc) (C := Try.checked) false ⟨#[], #[.agg #[.slice none 0 0, .int .i64 0, .int .i64 0], .agg #[.int .i64 0, .int .i64 0, .int .i64 0, .int .i64 0, .int .i64 0, .int .i64 0, .int .i64 0, .int .i64 0, .bool false, .int .i64 0], .int .i64 0, .int .i64 0], []⟩ 8 (by kernel_rfl) (by kernel_rfl) (by kernel_rfl) (by kernel_rfl)) ?_
  intro W base args ds gs before hval0 hW hcnd _
  have hval : ∀ (j : Nat) t v, Try.f4.params[j]? = some t → args[j]? = some v → Value.okWide Try.prog W .any base t v := hval0
  have hW' := hW
  obtain ⟨p, q, hA0, hV, rfl, hfz, hnd⟩ := hW
  have hA : DataW.TrodAll enc Try.prog W 0 (fun _ => true) true Try.f4.params.toList args.toList ds p := hA0
  rw [Try.params4] at hA hval
  have hAll := hA
  obtain ⟨v0, vs0, d0, ds0, p0, q0, hargs, rfl, rfl, h0, r0⟩ := trodAll_cons hA
  obtain ⟨v1, vs1, d1, ds1, p1, q1, rfl, rfl, rfl, h1, r1⟩ := trodAll_cons r0
  obtain ⟨v2, vs2, d2, ds2, p2, q2, rfl, rfl, rfl, h2, r2⟩ := trodAll_cons r1
  obtain ⟨v3, vs3, d3, ds3, p3, q3, rfl, rfl, rfl, h3, r3⟩ := trodAll_cons r2
  obtain ⟨rfl, rfl, rfl⟩ := trodAll_nil r3
  obtain rfl : args = #[v0, v1, v2, v3] := by cases args; simp_all
  obtain ⟨rfl, rfl⟩ := trodVars_none hV
  obtain ⟨A, n, cap, inc, delay, ps, rfl, hn, hp⟩ := openR (hval 0 24 v0 rfl rfl) h0
  obtain ⟨l0, l1, m0, m1, p0, p1, turn, since, fallen, st, rfl⟩ := openC (hval 1 27 v1 rfl rfl)
  obtain ⟨a2, rfl, rfl, rfl, w2⟩ := open_int Try.underlying3 (hval 2 3 v2 rfl rfl) h2
  obtain ⟨a3, rfl, rfl, rfl, w3⟩ := open_int Try.underlying3 (hval 3 3 v3 rfl rfl) h3
  clear hA0 hval0
  refine (walk A n cap inc delay ps l0 l1 m0 m1 p0 p1 turn since fallen st a2 a3 W hn hp).mono fun e W' ⟨he, bel⟩ => ?_
  subst he
  exact ⟨_, rfl, _, _, _, [], _, [], hW', trodAll_mk1 (shut_bool Try.underlying4 _), trodAll_stays laidOut bel (by kernel_rfl) hAll, rfl, bel.frame _, fun h => by cases h⟩

theorem over : Rows.clockDelaysRow.holds Try.pinned (OpenSpec.ofChange Rows.clockDelaysSpec) :=
  OpenClaim.holds_of_wide 4 Try.f4 rfl rfl rfl rfl rfl rfl rfl ⟨rfl, rfl, rfl, rfl, rfl⟩ rfl rfl rfl rfl rfl (by kernel_rfl) Try.func4 (by kernel_rfl)
    (of_decide_eq_true (by kernel_rfl)) (by unfold Func.isWrapper; first | (rw [if_pos (by decide +kernel)]; kernel_rfl) | (rw [if_neg (by decide +kernel)]; exact ⟨rfl, rfl⟩))
    (fun os started H enc _ => lifted os started H enc)

theorem proved : Rows.ClockDelaysSaid := over
end
#print axioms proved
end Go.Proofs.Ytpcllegmdioafaa.clockDelays
