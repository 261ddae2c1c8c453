/- ClockLater: later there is no more time left, and the other player's time does not change. For every input, no condition. -/
import Derived.Test.YtpcllegmdioafaaClkTicks
namespace Go.Proofs.Ytpcllegmdioafaa.clockLater
open Go.ChangeShapes Go.WideShapes Go.ChangeAt Go.RowKit
set_option linter.unusedVariables false


theorem used_mono (st : Bool) (delay since a b : Int) (h : a ≤ b) : usedZ st delay since a ≤ usedZ st delay since b := by
  unfold usedZ; split <;> omega
theorem used_nn (st : Bool) (delay since a : Int) : 0 ≤ usedZ st delay since a := by
  unfold usedZ; split <;> omega
theorem left_other (fallen lt lp u : Int) : leftZ false fallen lt lp u = lp := by
  unfold leftZ; simp
theorem left_own (fallen lt u v : Int) (h0 : 0 ≤ lt) (h : u ≤ v) (hu : 0 ≤ u) : leftZ true fallen lt lt v ≤ leftZ true fallen lt lt u ∧ 0 ≤ leftZ true fallen lt lt v := by
  unfold leftZ; simp only [if_true]; constructor <;> (repeat' split) <;> omega

set_option maxHeartbeats 2000000 in
theorem walk1Le (A : Option Addr) (n cap : Nat) (inc delay : Int) (ps : List (Int × Int)) (l0 l1 m0 m1 p0 p1 turn since fallen : Int) (st : Bool) (a b : Int) (w : World) (hn : n ≤ 9223372036854775807) (hp : PerAt w w.heap.size A n ps) (hab : a ≤ b) (hno : ¬ LeftOk n inc delay ps l0 l1 m0 m1 p0 p1 turn since fallen turn a) :
    Calls Try.prog 3 #[.agg #[.slice A n cap, .int .i64 inc, .int .i64 delay], .agg #[.int .i64 l0, .int .i64 l1, .int .i64 m0, .int .i64 m1, .int .i64 p0, .int .i64 p1, .int .i64 turn, .int .i64 since, .bool st, .int .i64 fallen], .int .i64 a, .int .i64 b] w fun e w' => e = .returned (.bool true) ∧ Below w.heap.size w w' := by
  have Hn := Lib.hid hno
  clear hno
  have hP := Lib.hid ((hp.alloc (.cells #[.slice A n cap, .int .i64 inc, .int .i64 delay] 24)).alloc (.cells #[.int .i64 l0, .int .i64 l1, .int .i64 m0, .int .i64 m1, .int .i64 p0, .int .i64 p1, .int .i64 turn, .int .i64 since, .bool st, .int .i64 fallen] 27))
  clear hp
  go_enter Try.func3, Try.ntmps3
  go_wp2_with fail
  refine (ticks_any _).mono ?_
  rintro e w1 ⟨rfl, hb⟩
  obtain ⟨hcell, hfr⟩ := bcell hb
  have hs := hb.size
  (try simp only [World.size_alloc] at hs)
  have hz0 : w.heap.size < w1.heap.size := by omega
  have hz1 : w.heap.size + 1 < w1.heap.size := by omega
  have hbel := (((Below.refl w.heap.size w).alloc (by go_size) _).alloc (by go_size) _).trans (hb.mono (by go_size))
  have hP1 := Lib.hid (hP.out.below hb)
  go_wp2_with fail
  refine (Left_any A n cap inc delay ps l0 l1 m0 m1 p0 p1 turn since fallen st turn a _ hn hP1.out).mono ?_
  rintro e w2 ⟨x0, c0, rfl, hc0, hx0, hy0, hb0⟩
  have g0 : (c0 != 0) = true := by rw [bne_iff_ne]; exact fun h => Hn.out (hc0.1 h)
  obtain rfl : x0 = 0 := hy0 Hn.out
  clear hc0 hx0 hy0
  have HB0 : Below (((w.alloc (.cells #[.slice A n cap, .int .i64 inc, .int .i64 delay] 24)).alloc (.cells #[.int .i64 l0, .int .i64 l1, .int .i64 m0, .int .i64 m1, .int .i64 p0, .int .i64 p1, .int .i64 turn, .int .i64 since, .bool st, .int .i64 fallen] 27))).heap.size ((w.alloc (.cells #[.slice A n cap, .int .i64 inc, .int .i64 delay] 24)).alloc (.cells #[.int .i64 l0, .int .i64 l1, .int .i64 m0, .int .i64 m1, .int .i64 p0, .int .i64 p1, .int .i64 turn, .int .i64 since, .bool st, .int .i64 fallen] 27)) w2 := hb.trans (hb0.mono (by go_size))
  have hP2 := Lib.hid (hP1.out.below hb0)
  clear hbel hs hz0 hz1 hcell hfr hb
  have hb := HB0
  clear HB0
  obtain ⟨hcell, hfr⟩ := bcell hb
  have hs := hb.size
  (try simp only [World.size_alloc] at hs)
  have hz0 : w.heap.size < w2.heap.size := by omega
  have hz1 : w.heap.size + 1 < w2.heap.size := by omega
  have hbel := (((Below.refl w.heap.size w).alloc (by go_size) _).alloc (by go_size) _).trans (hb.mono (by go_size))
  go_wp2_with fail
  refine (Left_any A n cap inc delay ps l0 l1 m0 m1 p0 p1 turn since fallen st turn b _ hn hP2.out).mono ?_
  rintro e w3 ⟨x1, c1, rfl, hc1, hx1, hy1, hb1⟩
  clear hc1 hx1 hy1
  have HB1 : Below (((w.alloc (.cells #[.slice A n cap, .int .i64 inc, .int .i64 delay] 24)).alloc (.cells #[.int .i64 l0, .int .i64 l1, .int .i64 m0, .int .i64 m1, .int .i64 p0, .int .i64 p1, .int .i64 turn, .int .i64 since, .bool st, .int .i64 fallen] 27))).heap.size ((w.alloc (.cells #[.slice A n cap, .int .i64 inc, .int .i64 delay] 24)).alloc (.cells #[.int .i64 l0, .int .i64 l1, .int .i64 m0, .int .i64 m1, .int .i64 p0, .int .i64 p1, .int .i64 turn, .int .i64 since, .bool st, .int .i64 fallen] 27)) w3 := hb.trans (hb1.mono (by go_size))
  have hP3 := Lib.hid (hP2.out.below hb1)
  clear hbel hs hz0 hz1 hcell hfr hb
  have hb := HB1
  clear HB1
  obtain ⟨hcell, hfr⟩ := bcell hb
  have hs := hb.size
  (try simp only [World.size_alloc] at hs)
  have hz0 : w.heap.size < w3.heap.size := by omega
  have hz1 : w.heap.size + 1 < w3.heap.size := by omega
  have hbel := (((Below.refl w.heap.size w).alloc (by go_size) _).alloc (by go_size) _).trans (hb.mono (by go_size))
  go_wp2_with fail
  refine (Left_any A n cap inc delay ps l0 l1 m0 m1 p0 p1 turn since fallen st _ a _ hn hP3.out).mono ?_
  rintro e w4 ⟨x2, c2, rfl, hc2, hx2, hy2, hb2⟩
  clear hc2 hx2 hy2
  have HB2 : Below (((w.alloc (.cells #[.slice A n cap, .int .i64 inc, .int .i64 delay] 24)).alloc (.cells #[.int .i64 l0, .int .i64 l1, .int .i64 m0, .int .i64 m1, .int .i64 p0, .int .i64 p1, .int .i64 turn, .int .i64 since, .bool st, .int .i64 fallen] 27))).heap.size ((w.alloc (.cells #[.slice A n cap, .int .i64 inc, .int .i64 delay] 24)).alloc (.cells #[.int .i64 l0, .int .i64 l1, .int .i64 m0, .int .i64 m1, .int .i64 p0, .int .i64 p1, .int .i64 turn, .int .i64 since, .bool st, .int .i64 fallen] 27)) w4 := hb.trans (hb2.mono (by go_size))
  have hP4 := Lib.hid (hP3.out.below hb2)
  clear hbel hs hz0 hz1 hcell hfr hb
  have hb := HB2
  clear HB2
  obtain ⟨hcell, hfr⟩ := bcell hb
  have hs := hb.size
  (try simp only [World.size_alloc] at hs)
  have hz0 : w.heap.size < w4.heap.size := by omega
  have hz1 : w.heap.size + 1 < w4.heap.size := by omega
  have hbel := (((Below.refl w.heap.size w).alloc (by go_size) _).alloc (by go_size) _).trans (hb.mono (by go_size))
  go_wp2_with fail
  refine (Left_any A n cap inc delay ps l0 l1 m0 m1 p0 p1 turn since fallen st _ b _ hn hP4.out).mono ?_
  rintro e w5 ⟨x3, c3, rfl, hc3, hx3, hy3, hb3⟩
  clear hc3 hx3 hy3
  have HB3 : Below (((w.alloc (.cells #[.slice A n cap, .int .i64 inc, .int .i64 delay] 24)).alloc (.cells #[.int .i64 l0, .int .i64 l1, .int .i64 m0, .int .i64 m1, .int .i64 p0, .int .i64 p1, .int .i64 turn, .int .i64 since, .bool st, .int .i64 fallen] 27))).heap.size ((w.alloc (.cells #[.slice A n cap, .int .i64 inc, .int .i64 delay] 24)).alloc (.cells #[.int .i64 l0, .int .i64 l1, .int .i64 m0, .int .i64 m1, .int .i64 p0, .int .i64 p1, .int .i64 turn, .int .i64 since, .bool st, .int .i64 fallen] 27)) w5 := hb.trans (hb3.mono (by go_size))
  have hP5 := Lib.hid (hP4.out.below hb3)
  clear hbel hs hz0 hz1 hcell hfr hb
  have hb := HB3
  clear HB3
  obtain ⟨hcell, hfr⟩ := bcell hb
  have hs := hb.size
  (try simp only [World.size_alloc] at hs)
  have hz0 : w.heap.size < w5.heap.size := by omega
  have hz1 : w.heap.size + 1 < w5.heap.size := by omega
  have hbel := (((Below.refl w.heap.size w).alloc (by go_size) _).alloc (by go_size) _).trans (hb.mono (by go_size))
  go_wp2
  all_goals
    go_ret
    refine ⟨rfl, ?_⟩
    go_grown

set_option maxHeartbeats 2000000 in
theorem walk2Le (A : Option Addr) (n cap : Nat) (inc delay : Int) (ps : List (Int × Int)) (l0 l1 m0 m1 p0 p1 turn since fallen : Int) (st : Bool) (a b : Int) (w : World) (hn : n ≤ 9223372036854775807) (hp : PerAt w w.heap.size A n ps) (hab : a ≤ b) (hyes : LeftOk n inc delay ps l0 l1 m0 m1 p0 p1 turn since fallen turn a) (hno : ¬ LeftOk n inc delay ps l0 l1 m0 m1 p0 p1 turn since fallen turn b) :
    Calls Try.prog 3 #[.agg #[.slice A n cap, .int .i64 inc, .int .i64 delay], .agg #[.int .i64 l0, .int .i64 l1, .int .i64 m0, .int .i64 m1, .int .i64 p0, .int .i64 p1, .int .i64 turn, .int .i64 since, .bool st, .int .i64 fallen], .int .i64 a, .int .i64 b] w fun e w' => e = .returned (.bool true) ∧ Below w.heap.size w w' := by
  have Hn := Lib.hid hno
  clear hno
  have Ho := Lib.hid hyes
  clear hyes
  have hP := Lib.hid ((hp.alloc (.cells #[.slice A n cap, .int .i64 inc, .int .i64 delay] 24)).alloc (.cells #[.int .i64 l0, .int .i64 l1, .int .i64 m0, .int .i64 m1, .int .i64 p0, .int .i64 p1, .int .i64 turn, .int .i64 since, .bool st, .int .i64 fallen] 27))
  clear hp
  go_enter Try.func3, Try.ntmps3
  go_wp2_with fail
  refine (ticks_any _).mono ?_
  rintro e w1 ⟨rfl, hb⟩
  obtain ⟨hcell, hfr⟩ := bcell hb
  have hs := hb.size
  (try simp only [World.size_alloc] at hs)
  have hz0 : w.heap.size < w1.heap.size := by omega
  have hz1 : w.heap.size + 1 < w1.heap.size := by omega
  have hbel := (((Below.refl w.heap.size w).alloc (by go_size) _).alloc (by go_size) _).trans (hb.mono (by go_size))
  have hP1 := Lib.hid (hP.out.below hb)
  go_wp2_with fail
  refine (Left_any A n cap inc delay ps l0 l1 m0 m1 p0 p1 turn since fallen st turn a _ hn hP1.out).mono ?_
  rintro e w2 ⟨x0, c0, rfl, hc0, hx0, hy0, hb0⟩
  obtain rfl : c0 = 0 := hc0.2 Ho.out
  clear hc0 hx0 hy0
  have HB0 : Below (((w.alloc (.cells #[.slice A n cap, .int .i64 inc, .int .i64 delay] 24)).alloc (.cells #[.int .i64 l0, .int .i64 l1, .int .i64 m0, .int .i64 m1, .int .i64 p0, .int .i64 p1, .int .i64 turn, .int .i64 since, .bool st, .int .i64 fallen] 27))).heap.size ((w.alloc (.cells #[.slice A n cap, .int .i64 inc, .int .i64 delay] 24)).alloc (.cells #[.int .i64 l0, .int .i64 l1, .int .i64 m0, .int .i64 m1, .int .i64 p0, .int .i64 p1, .int .i64 turn, .int .i64 since, .bool st, .int .i64 fallen] 27)) w2 := hb.trans (hb0.mono (by go_size))
  have hP2 := Lib.hid (hP1.out.below hb0)
  clear hbel hs hz0 hz1 hcell hfr hb
  have hb := HB0
  clear HB0
  obtain ⟨hcell, hfr⟩ := bcell hb
  have hs := hb.size
  (try simp only [World.size_alloc] at hs)
  have hz0 : w.heap.size < w2.heap.size := by omega
  have hz1 : w.heap.size + 1 < w2.heap.size := by omega
  have hbel := (((Below.refl w.heap.size w).alloc (by go_size) _).alloc (by go_size) _).trans (hb.mono (by go_size))
  go_wp2_with fail
  refine (Left_any A n cap inc delay ps l0 l1 m0 m1 p0 p1 turn since fallen st turn b _ hn hP2.out).mono ?_
  rintro e w3 ⟨x1, c1, rfl, hc1, hx1, hy1, hb1⟩
  have g1 : (c1 != 0) = true := by rw [bne_iff_ne]; exact fun h => Hn.out (hc1.1 h)
  obtain rfl : x1 = 0 := hy1 Hn.out
  clear hc1 hx1 hy1
  have HB1 : Below (((w.alloc (.cells #[.slice A n cap, .int .i64 inc, .int .i64 delay] 24)).alloc (.cells #[.int .i64 l0, .int .i64 l1, .int .i64 m0, .int .i64 m1, .int .i64 p0, .int .i64 p1, .int .i64 turn, .int .i64 since, .bool st, .int .i64 fallen] 27))).heap.size ((w.alloc (.cells #[.slice A n cap, .int .i64 inc, .int .i64 delay] 24)).alloc (.cells #[.int .i64 l0, .int .i64 l1, .int .i64 m0, .int .i64 m1, .int .i64 p0, .int .i64 p1, .int .i64 turn, .int .i64 since, .bool st, .int .i64 fallen] 27)) w3 := hb.trans (hb1.mono (by go_size))
  have hP3 := Lib.hid (hP2.out.below hb1)
  clear hbel hs hz0 hz1 hcell hfr hb
  have hb := HB1
  clear HB1
  obtain ⟨hcell, hfr⟩ := bcell hb
  have hs := hb.size
  (try simp only [World.size_alloc] at hs)
  have hz0 : w.heap.size < w3.heap.size := by omega
  have hz1 : w.heap.size + 1 < w3.heap.size := by omega
  have hbel := (((Below.refl w.heap.size w).alloc (by go_size) _).alloc (by go_size) _).trans (hb.mono (by go_size))
  go_wp2_with fail
  refine (Left_any A n cap inc delay ps l0 l1 m0 m1 p0 p1 turn since fallen st _ a _ hn hP3.out).mono ?_
  rintro e w4 ⟨x2, c2, rfl, hc2, hx2, hy2, hb2⟩
  clear hc2 hx2 hy2
  have HB2 : Below (((w.alloc (.cells #[.slice A n cap, .int .i64 inc, .int .i64 delay] 24)).alloc (.cells #[.int .i64 l0, .int .i64 l1, .int .i64 m0, .int .i64 m1, .int .i64 p0, .int .i64 p1, .int .i64 turn, .int .i64 since, .bool st, .int .i64 fallen] 27))).heap.size ((w.alloc (.cells #[.slice A n cap, .int .i64 inc, .int .i64 delay] 24)).alloc (.cells #[.int .i64 l0, .int .i64 l1, .int .i64 m0, .int .i64 m1, .int .i64 p0, .int .i64 p1, .int .i64 turn, .int .i64 since, .bool st, .int .i64 fallen] 27)) w4 := hb.trans (hb2.mono (by go_size))
  have hP4 := Lib.hid (hP3.out.below hb2)
  clear hbel hs hz0 hz1 hcell hfr hb
  have hb := HB2
  clear HB2
  obtain ⟨hcell, hfr⟩ := bcell hb
  have hs := hb.size
  (try simp only [World.size_alloc] at hs)
  have hz0 : w.heap.size < w4.heap.size := by omega
  have hz1 : w.heap.size + 1 < w4.heap.size := by omega
  have hbel := (((Below.refl w.heap.size w).alloc (by go_size) _).alloc (by go_size) _).trans (hb.mono (by go_size))
  go_wp2_with fail
  refine (Left_any A n cap inc delay ps l0 l1 m0 m1 p0 p1 turn since fallen st _ b _ hn hP4.out).mono ?_
  rintro e w5 ⟨x3, c3, rfl, hc3, hx3, hy3, hb3⟩
  clear hc3 hx3 hy3
  have HB3 : Below (((w.alloc (.cells #[.slice A n cap, .int .i64 inc, .int .i64 delay] 24)).alloc (.cells #[.int .i64 l0, .int .i64 l1, .int .i64 m0, .int .i64 m1, .int .i64 p0, .int .i64 p1, .int .i64 turn, .int .i64 since, .bool st, .int .i64 fallen] 27))).heap.size ((w.alloc (.cells #[.slice A n cap, .int .i64 inc, .int .i64 delay] 24)).alloc (.cells #[.int .i64 l0, .int .i64 l1, .int .i64 m0, .int .i64 m1, .int .i64 p0, .int .i64 p1, .int .i64 turn, .int .i64 since, .bool st, .int .i64 fallen] 27)) w5 := hb.trans (hb3.mono (by go_size))
  have hP5 := Lib.hid (hP4.out.below hb3)
  clear hbel hs hz0 hz1 hcell hfr hb
  have hb := HB3
  clear HB3
  obtain ⟨hcell, hfr⟩ := bcell hb
  have hs := hb.size
  (try simp only [World.size_alloc] at hs)
  have hz0 : w.heap.size < w5.heap.size := by omega
  have hz1 : w.heap.size + 1 < w5.heap.size := by omega
  have hbel := (((Below.refl w.heap.size w).alloc (by go_size) _).alloc (by go_size) _).trans (hb.mono (by go_size))
  go_wp2
  all_goals
    go_ret
    refine ⟨rfl, ?_⟩
    go_grown

set_option maxHeartbeats 2000000 in
theorem walk3Le_0 (A : Option Addr) (n cap : Nat) (inc delay : Int) (ps : List (Int × Int)) (l0 l1 m0 m1 p0 p1 since fallen : Int) (st : Bool) (a b : Int) (w : World) (hn : n ≤ 9223372036854775807) (hp : PerAt w w.heap.size A n ps) (hab : a ≤ b) (hya : LeftOk n inc delay ps l0 l1 m0 m1 p0 p1 0 since fallen 0 a) (hyb : LeftOk n inc delay ps l0 l1 m0 m1 p0 p1 0 since fallen 0 b) :
    Calls Try.prog 3 #[.agg #[.slice A n cap, .int .i64 inc, .int .i64 delay], .agg #[.int .i64 l0, .int .i64 l1, .int .i64 m0, .int .i64 m1, .int .i64 p0, .int .i64 p1, .int .i64 0, .int .i64 since, .bool st, .int .i64 fallen], .int .i64 a, .int .i64 b] w fun e w' => e = .returned (.bool true) ∧ Below w.heap.size w w' := by
  have hl : 0 ≤ l0 := hya.2.1.2.2.2.2.2.1.1
  have h1 := left_own fallen l0 (usedZ st delay since a) (usedZ st delay since b) hl (used_mono _ _ _ _ _ (by omega)) (used_nn _ _ _ _)
  have Hb' := Lib.hid hyb
  have Ha := Lib.hid hya
  have Ha' : Hid (LeftOk n inc delay ps l0 l1 m0 m1 p0 p1 0 since fallen 1 a) := Lib.hid ⟨hya.1, hya.2.1, by omega, hya.2.2.2⟩
  have Hb'' : Hid (LeftOk n inc delay ps l0 l1 m0 m1 p0 p1 0 since fallen 1 b) := Lib.hid ⟨hyb.1, hyb.2.1, by omega, hyb.2.2.2⟩
  clear hya hyb
  have hP := Lib.hid ((hp.alloc (.cells #[.slice A n cap, .int .i64 inc, .int .i64 delay] 24)).alloc (.cells #[.int .i64 l0, .int .i64 l1, .int .i64 m0, .int .i64 m1, .int .i64 p0, .int .i64 p1, .int .i64 0, .int .i64 since, .bool st, .int .i64 fallen] 27))
  clear hp
  go_enter Try.func3, Try.ntmps3
  go_wp2_with fail
  refine (ticks_any _).mono ?_
  rintro e w1 ⟨rfl, hb⟩
  obtain ⟨hcell, hfr⟩ := bcell hb
  have hs := hb.size
  (try simp only [World.size_alloc] at hs)
  have hz0 : w.heap.size < w1.heap.size := by omega
  have hz1 : w.heap.size + 1 < w1.heap.size := by omega
  have hbel := (((Below.refl w.heap.size w).alloc (by go_size) _).alloc (by go_size) _).trans (hb.mono (by go_size))
  have hP1 := Lib.hid (hP.out.below hb)
  go_wp2_with fail
  refine (Left_any A n cap inc delay ps l0 l1 m0 m1 p0 p1 0 since fallen st 0 a _ hn hP1.out).mono ?_
  rintro e w2 ⟨x0, c0, rfl, hc0, hx0, hy0, hb0⟩
  obtain rfl : c0 = 0 := hc0.2 Ha.out
  obtain rfl : x0 = leftZ true fallen l0 l0 (usedZ st delay since a) := hx0 Ha.out
  clear hc0 hx0 hy0
  have HB0 : Below (((w.alloc (.cells #[.slice A n cap, .int .i64 inc, .int .i64 delay] 24)).alloc (.cells #[.int .i64 l0, .int .i64 l1, .int .i64 m0, .int .i64 m1, .int .i64 p0, .int .i64 p1, .int .i64 0, .int .i64 since, .bool st, .int .i64 fallen] 27))).heap.size ((w.alloc (.cells #[.slice A n cap, .int .i64 inc, .int .i64 delay] 24)).alloc (.cells #[.int .i64 l0, .int .i64 l1, .int .i64 m0, .int .i64 m1, .int .i64 p0, .int .i64 p1, .int .i64 0, .int .i64 since, .bool st, .int .i64 fallen] 27)) w2 := hb.trans (hb0.mono (by go_size))
  have hP2 := Lib.hid (hP1.out.below hb0)
  clear hbel hs hz0 hz1 hcell hfr hb
  have hb := HB0
  clear HB0
  obtain ⟨hcell, hfr⟩ := bcell hb
  have hs := hb.size
  (try simp only [World.size_alloc] at hs)
  have hz0 : w.heap.size < w2.heap.size := by omega
  have hz1 : w.heap.size + 1 < w2.heap.size := by omega
  have hbel := (((Below.refl w.heap.size w).alloc (by go_size) _).alloc (by go_size) _).trans (hb.mono (by go_size))
  go_wp2_with fail
  refine (Left_any A n cap inc delay ps l0 l1 m0 m1 p0 p1 0 since fallen st 0 b _ hn hP2.out).mono ?_
  rintro e w3 ⟨x1, c1, rfl, hc1, hx1, hy1, hb1⟩
  obtain rfl : c1 = 0 := hc1.2 Hb'.out
  obtain rfl : x1 = leftZ true fallen l0 l0 (usedZ st delay since b) := hx1 Hb'.out
  clear hc1 hx1 hy1
  have HB1 : Below (((w.alloc (.cells #[.slice A n cap, .int .i64 inc, .int .i64 delay] 24)).alloc (.cells #[.int .i64 l0, .int .i64 l1, .int .i64 m0, .int .i64 m1, .int .i64 p0, .int .i64 p1, .int .i64 0, .int .i64 since, .bool st, .int .i64 fallen] 27))).heap.size ((w.alloc (.cells #[.slice A n cap, .int .i64 inc, .int .i64 delay] 24)).alloc (.cells #[.int .i64 l0, .int .i64 l1, .int .i64 m0, .int .i64 m1, .int .i64 p0, .int .i64 p1, .int .i64 0, .int .i64 since, .bool st, .int .i64 fallen] 27)) w3 := hb.trans (hb1.mono (by go_size))
  have hP3 := Lib.hid (hP2.out.below hb1)
  clear hbel hs hz0 hz1 hcell hfr hb
  have hb := HB1
  clear HB1
  obtain ⟨hcell, hfr⟩ := bcell hb
  have hs := hb.size
  (try simp only [World.size_alloc] at hs)
  have hz0 : w.heap.size < w3.heap.size := by omega
  have hz1 : w.heap.size + 1 < w3.heap.size := by omega
  have hbel := (((Below.refl w.heap.size w).alloc (by go_size) _).alloc (by go_size) _).trans (hb.mono (by go_size))
  go_wp2_with fail
  refine (Left_any A n cap inc delay ps l0 l1 m0 m1 p0 p1 0 since fallen st 1 a _ hn hP3.out).mono ?_
  rintro e w4 ⟨x2, c2, rfl, hc2, hx2, hy2, hb2⟩
  obtain rfl : c2 = 0 := hc2.2 Ha'.out
  obtain rfl : l1 = x2 := ((hx2 Ha'.out).trans (left_other _ _ _ _)).symm
  clear hc2 hx2 hy2
  have HB2 : Below (((w.alloc (.cells #[.slice A n cap, .int .i64 inc, .int .i64 delay] 24)).alloc (.cells #[.int .i64 l0, .int .i64 l1, .int .i64 m0, .int .i64 m1, .int .i64 p0, .int .i64 p1, .int .i64 0, .int .i64 since, .bool st, .int .i64 fallen] 27))).heap.size ((w.alloc (.cells #[.slice A n cap, .int .i64 inc, .int .i64 delay] 24)).alloc (.cells #[.int .i64 l0, .int .i64 l1, .int .i64 m0, .int .i64 m1, .int .i64 p0, .int .i64 p1, .int .i64 0, .int .i64 since, .bool st, .int .i64 fallen] 27)) w4 := hb.trans (hb2.mono (by go_size))
  have hP4 := Lib.hid (hP3.out.below hb2)
  clear hbel hs hz0 hz1 hcell hfr hb
  have hb := HB2
  clear HB2
  obtain ⟨hcell, hfr⟩ := bcell hb
  have hs := hb.size
  (try simp only [World.size_alloc] at hs)
  have hz0 : w.heap.size < w4.heap.size := by omega
  have hz1 : w.heap.size + 1 < w4.heap.size := by omega
  have hbel := (((Below.refl w.heap.size w).alloc (by go_size) _).alloc (by go_size) _).trans (hb.mono (by go_size))
  go_wp2_with fail
  refine (Left_any A n cap inc delay ps l0 l1 m0 m1 p0 p1 0 since fallen st 1 b _ hn hP4.out).mono ?_
  rintro e w5 ⟨x3, c3, rfl, hc3, hx3, hy3, hb3⟩
  obtain rfl : c3 = 0 := hc3.2 Hb''.out
  obtain rfl : l1 = x3 := ((hx3 Hb''.out).trans (left_other _ _ _ _)).symm
  clear hc3 hx3 hy3
  have HB3 : Below (((w.alloc (.cells #[.slice A n cap, .int .i64 inc, .int .i64 delay] 24)).alloc (.cells #[.int .i64 l0, .int .i64 l1, .int .i64 m0, .int .i64 m1, .int .i64 p0, .int .i64 p1, .int .i64 0, .int .i64 since, .bool st, .int .i64 fallen] 27))).heap.size ((w.alloc (.cells #[.slice A n cap, .int .i64 inc, .int .i64 delay] 24)).alloc (.cells #[.int .i64 l0, .int .i64 l1, .int .i64 m0, .int .i64 m1, .int .i64 p0, .int .i64 p1, .int .i64 0, .int .i64 since, .bool st, .int .i64 fallen] 27)) w5 := hb.trans (hb3.mono (by go_size))
  have hP5 := Lib.hid (hP4.out.below hb3)
  clear hbel hs hz0 hz1 hcell hfr hb
  have hb := HB3
  clear HB3
  obtain ⟨hcell, hfr⟩ := bcell hb
  have hs := hb.size
  (try simp only [World.size_alloc] at hs)
  have hz0 : w.heap.size < w5.heap.size := by omega
  have hz1 : w.heap.size + 1 < w5.heap.size := by omega
  have hbel := (((Below.refl w.heap.size w).alloc (by go_size) _).alloc (by go_size) _).trans (hb.mono (by go_size))
  go_wp2
  all_goals
    go_ret
    refine ⟨rfl, ?_⟩
    go_grown

set_option maxHeartbeats 2000000 in
theorem walk3Le_1 (A : Option Addr) (n cap : Nat) (inc delay : Int) (ps : List (Int × Int)) (l0 l1 m0 m1 p0 p1 since fallen : Int) (st : Bool) (a b : Int) (w : World) (hn : n ≤ 9223372036854775807) (hp : PerAt w w.heap.size A n ps) (hab : a ≤ b) (hya : LeftOk n inc delay ps l0 l1 m0 m1 p0 p1 1 since fallen 1 a) (hyb : LeftOk n inc delay ps l0 l1 m0 m1 p0 p1 1 since fallen 1 b) :
    Calls Try.prog 3 #[.agg #[.slice A n cap, .int .i64 inc, .int .i64 delay], .agg #[.int .i64 l0, .int .i64 l1, .int .i64 m0, .int .i64 m1, .int .i64 p0, .int .i64 p1, .int .i64 1, .int .i64 since, .bool st, .int .i64 fallen], .int .i64 a, .int .i64 b] w fun e w' => e = .returned (.bool true) ∧ Below w.heap.size w w' := by
  have hl : 0 ≤ l1 := hya.2.1.2.2.2.2.2.2.2.2.1
  have h1 := left_own fallen l1 (usedZ st delay since a) (usedZ st delay since b) hl (used_mono _ _ _ _ _ (by omega)) (used_nn _ _ _ _)
  have Hb' := Lib.hid hyb
  have Ha := Lib.hid hya
  have Ha' : Hid (LeftOk n inc delay ps l0 l1 m0 m1 p0 p1 1 since fallen 0 a) := Lib.hid ⟨hya.1, hya.2.1, by omega, hya.2.2.2⟩
  have Hb'' : Hid (LeftOk n inc delay ps l0 l1 m0 m1 p0 p1 1 since fallen 0 b) := Lib.hid ⟨hyb.1, hyb.2.1, by omega, hyb.2.2.2⟩
  clear hya hyb
  have hP := Lib.hid ((hp.alloc (.cells #[.slice A n cap, .int .i64 inc, .int .i64 delay] 24)).alloc (.cells #[.int .i64 l0, .int .i64 l1, .int .i64 m0, .int .i64 m1, .int .i64 p0, .int .i64 p1, .int .i64 1, .int .i64 since, .bool st, .int .i64 fallen] 27))
  clear hp
  go_enter Try.func3, Try.ntmps3
  go_wp2_with fail
  refine (ticks_any _).mono ?_
  rintro e w1 ⟨rfl, hb⟩
  obtain ⟨hcell, hfr⟩ := bcell hb
  have hs := hb.size
  (try simp only [World.size_alloc] at hs)
  have hz0 : w.heap.size < w1.heap.size := by omega
  have hz1 : w.heap.size + 1 < w1.heap.size := by omega
  have hbel := (((Below.refl w.heap.size w).alloc (by go_size) _).alloc (by go_size) _).trans (hb.mono (by go_size))
  have hP1 := Lib.hid (hP.out.below hb)
  go_wp2_with fail
  refine (Left_any A n cap inc delay ps l0 l1 m0 m1 p0 p1 1 since fallen st 1 a _ hn hP1.out).mono ?_
  rintro e w2 ⟨x0, c0, rfl, hc0, hx0, hy0, hb0⟩
  obtain rfl : c0 = 0 := hc0.2 Ha.out
  obtain rfl : x0 = leftZ true fallen l1 l1 (usedZ st delay since a) := hx0 Ha.out
  clear hc0 hx0 hy0
  have HB0 : Below (((w.alloc (.cells #[.slice A n cap, .int .i64 inc, .int .i64 delay] 24)).alloc (.cells #[.int .i64 l0, .int .i64 l1, .int .i64 m0, .int .i64 m1, .int .i64 p0, .int .i64 p1, .int .i64 1, .int .i64 since, .bool st, .int .i64 fallen] 27))).heap.size ((w.alloc (.cells #[.slice A n cap, .int .i64 inc, .int .i64 delay] 24)).alloc (.cells #[.int .i64 l0, .int .i64 l1, .int .i64 m0, .int .i64 m1, .int .i64 p0, .int .i64 p1, .int .i64 1, .int .i64 since, .bool st, .int .i64 fallen] 27)) w2 := hb.trans (hb0.mono (by go_size))
  have hP2 := Lib.hid (hP1.out.below hb0)
  clear hbel hs hz0 hz1 hcell hfr hb
  have hb := HB0
  clear HB0
  obtain ⟨hcell, hfr⟩ := bcell hb
  have hs := hb.size
  (try simp only [World.size_alloc] at hs)
  have hz0 : w.heap.size < w2.heap.size := by omega
  have hz1 : w.heap.size + 1 < w2.heap.size := by omega
  have hbel := (((Below.refl w.heap.size w).alloc (by go_size) _).alloc (by go_size) _).trans (hb.mono (by go_size))
  go_wp2_with fail
  refine (Left_any A n cap inc delay ps l0 l1 m0 m1 p0 p1 1 since fallen st 1 b _ hn hP2.out).mono ?_
  rintro e w3 ⟨x1, c1, rfl, hc1, hx1, hy1, hb1⟩
  obtain rfl : c1 = 0 := hc1.2 Hb'.out
  obtain rfl : x1 = leftZ true fallen l1 l1 (usedZ st delay since b) := hx1 Hb'.out
  clear hc1 hx1 hy1
  have HB1 : Below (((w.alloc (.cells #[.slice A n cap, .int .i64 inc, .int .i64 delay] 24)).alloc (.cells #[.int .i64 l0, .int .i64 l1, .int .i64 m0, .int .i64 m1, .int .i64 p0, .int .i64 p1, .int .i64 1, .int .i64 since, .bool st, .int .i64 fallen] 27))).heap.size ((w.alloc (.cells #[.slice A n cap, .int .i64 inc, .int .i64 delay] 24)).alloc (.cells #[.int .i64 l0, .int .i64 l1, .int .i64 m0, .int .i64 m1, .int .i64 p0, .int .i64 p1, .int .i64 1, .int .i64 since, .bool st, .int .i64 fallen] 27)) w3 := hb.trans (hb1.mono (by go_size))
  have hP3 := Lib.hid (hP2.out.below hb1)
  clear hbel hs hz0 hz1 hcell hfr hb
  have hb := HB1
  clear HB1
  obtain ⟨hcell, hfr⟩ := bcell hb
  have hs := hb.size
  (try simp only [World.size_alloc] at hs)
  have hz0 : w.heap.size < w3.heap.size := by omega
  have hz1 : w.heap.size + 1 < w3.heap.size := by omega
  have hbel := (((Below.refl w.heap.size w).alloc (by go_size) _).alloc (by go_size) _).trans (hb.mono (by go_size))
  go_wp2_with fail
  refine (Left_any A n cap inc delay ps l0 l1 m0 m1 p0 p1 1 since fallen st 0 a _ hn hP3.out).mono ?_
  rintro e w4 ⟨x2, c2, rfl, hc2, hx2, hy2, hb2⟩
  obtain rfl : c2 = 0 := hc2.2 Ha'.out
  obtain rfl : l0 = x2 := ((hx2 Ha'.out).trans (left_other _ _ _ _)).symm
  clear hc2 hx2 hy2
  have HB2 : Below (((w.alloc (.cells #[.slice A n cap, .int .i64 inc, .int .i64 delay] 24)).alloc (.cells #[.int .i64 l0, .int .i64 l1, .int .i64 m0, .int .i64 m1, .int .i64 p0, .int .i64 p1, .int .i64 1, .int .i64 since, .bool st, .int .i64 fallen] 27))).heap.size ((w.alloc (.cells #[.slice A n cap, .int .i64 inc, .int .i64 delay] 24)).alloc (.cells #[.int .i64 l0, .int .i64 l1, .int .i64 m0, .int .i64 m1, .int .i64 p0, .int .i64 p1, .int .i64 1, .int .i64 since, .bool st, .int .i64 fallen] 27)) w4 := hb.trans (hb2.mono (by go_size))
  have hP4 := Lib.hid (hP3.out.below hb2)
  clear hbel hs hz0 hz1 hcell hfr hb
  have hb := HB2
  clear HB2
  obtain ⟨hcell, hfr⟩ := bcell hb
  have hs := hb.size
  (try simp only [World.size_alloc] at hs)
  have hz0 : w.heap.size < w4.heap.size := by omega
  have hz1 : w.heap.size + 1 < w4.heap.size := by omega
  have hbel := (((Below.refl w.heap.size w).alloc (by go_size) _).alloc (by go_size) _).trans (hb.mono (by go_size))
  go_wp2_with fail
  refine (Left_any A n cap inc delay ps l0 l1 m0 m1 p0 p1 1 since fallen st 0 b _ hn hP4.out).mono ?_
  rintro e w5 ⟨x3, c3, rfl, hc3, hx3, hy3, hb3⟩
  obtain rfl : c3 = 0 := hc3.2 Hb''.out
  obtain rfl : l0 = x3 := ((hx3 Hb''.out).trans (left_other _ _ _ _)).symm
  clear hc3 hx3 hy3
  have HB3 : Below (((w.alloc (.cells #[.slice A n cap, .int .i64 inc, .int .i64 delay] 24)).alloc (.cells #[.int .i64 l0, .int .i64 l1, .int .i64 m0, .int .i64 m1, .int .i64 p0, .int .i64 p1, .int .i64 1, .int .i64 since, .bool st, .int .i64 fallen] 27))).heap.size ((w.alloc (.cells #[.slice A n cap, .int .i64 inc, .int .i64 delay] 24)).alloc (.cells #[.int .i64 l0, .int .i64 l1, .int .i64 m0, .int .i64 m1, .int .i64 p0, .int .i64 p1, .int .i64 1, .int .i64 since, .bool st, .int .i64 fallen] 27)) w5 := hb.trans (hb3.mono (by go_size))
  have hP5 := Lib.hid (hP4.out.below hb3)
  clear hbel hs hz0 hz1 hcell hfr hb
  have hb := HB3
  clear HB3
  obtain ⟨hcell, hfr⟩ := bcell hb
  have hs := hb.size
  (try simp only [World.size_alloc] at hs)
  have hz0 : w.heap.size < w5.heap.size := by omega
  have hz1 : w.heap.size + 1 < w5.heap.size := by omega
  have hbel := (((Below.refl w.heap.size w).alloc (by go_size) _).alloc (by go_size) _).trans (hb.mono (by go_size))
  go_wp2
  all_goals
    go_ret
    refine ⟨rfl, ?_⟩
    go_grown

theorem walkLe (A : Option Addr) (n cap : Nat) (inc delay : Int) (ps : List (Int × Int)) (l0 l1 m0 m1 p0 p1 turn since fallen : Int) (st : Bool) (a b : Int) (w : World) (hn : n ≤ 9223372036854775807) (hp : PerAt w w.heap.size A n ps) (hab : a ≤ b) :
    Calls Try.prog 3 #[.agg #[.slice A n cap, .int .i64 inc, .int .i64 delay], .agg #[.int .i64 l0, .int .i64 l1, .int .i64 m0, .int .i64 m1, .int .i64 p0, .int .i64 p1, .int .i64 turn, .int .i64 since, .bool st, .int .i64 fallen], .int .i64 a, .int .i64 b] w fun e w' => e = .returned (.bool true) ∧ Below w.heap.size w w' := by
  by_cases ha : LeftOk n inc delay ps l0 l1 m0 m1 p0 p1 turn since fallen turn a
  · by_cases hb : LeftOk n inc delay ps l0 l1 m0 m1 p0 p1 turn since fallen turn b
    · have ht : turn = 0 ∨ turn = 1 := by have := ha.2.2.1; omega
      rcases ht with rfl | rfl
      · exact walk3Le_0 A n cap inc delay ps l0 l1 m0 m1 p0 p1 since fallen st a b w hn hp hab ha hb
      · exact walk3Le_1 A n cap inc delay ps l0 l1 m0 m1 p0 p1 since fallen st a b w hn hp hab ha hb
    · exact walk2Le A n cap inc delay ps l0 l1 m0 m1 p0 p1 turn since fallen st a b w hn hp hab ha hb
  · exact walk1Le A n cap inc delay ps l0 l1 m0 m1 p0 p1 turn since fallen st a b w hn hp hab ha

set_option maxHeartbeats 2000000 in
theorem walk1Gt (A : Option Addr) (n cap : Nat) (inc delay : Int) (ps : List (Int × Int)) (l0 l1 m0 m1 p0 p1 turn since fallen : Int) (st : Bool) (a b : Int) (w : World) (hn : n ≤ 9223372036854775807) (hp : PerAt w w.heap.size A n ps) (hab : b < a) (hno : ¬ LeftOk n inc delay ps l0 l1 m0 m1 p0 p1 turn since fallen turn b) :
    Calls Try.prog 3 #[.agg #[.slice A n cap, .int .i64 inc, .int .i64 delay], .agg #[.int .i64 l0, .int .i64 l1, .int .i64 m0, .int .i64 m1, .int .i64 p0, .int .i64 p1, .int .i64 turn, .int .i64 since, .bool st, .int .i64 fallen], .int .i64 a, .int .i64 b] w fun e w' => e = .returned (.bool true) ∧ Below w.heap.size w w' := by
  have Hn := Lib.hid hno
  clear hno
  have hP := Lib.hid ((hp.alloc (.cells #[.slice A n cap, .int .i64 inc, .int .i64 delay] 24)).alloc (.cells #[.int .i64 l0, .int .i64 l1, .int .i64 m0, .int .i64 m1, .int .i64 p0, .int .i64 p1, .int .i64 turn, .int .i64 since, .bool st, .int .i64 fallen] 27))
  clear hp
  go_enter Try.func3, Try.ntmps3
  go_wp2_with fail
  refine (ticks_any _).mono ?_
  rintro e w1 ⟨rfl, hb⟩
  obtain ⟨hcell, hfr⟩ := bcell hb
  have hs := hb.size
  (try simp only [World.size_alloc] at hs)
  have hz0 : w.heap.size < w1.heap.size := by omega
  have hz1 : w.heap.size + 1 < w1.heap.size := by omega
  have hbel := (((Below.refl w.heap.size w).alloc (by go_size) _).alloc (by go_size) _).trans (hb.mono (by go_size))
  have hP1 := Lib.hid (hP.out.below hb)
  go_wp2_with fail
  refine (Left_any A n cap inc delay ps l0 l1 m0 m1 p0 p1 turn since fallen st turn b _ hn hP1.out).mono ?_
  rintro e w2 ⟨x0, c0, rfl, hc0, hx0, hy0, hb0⟩
  have g0 : (c0 != 0) = true := by rw [bne_iff_ne]; exact fun h => Hn.out (hc0.1 h)
  obtain rfl : x0 = 0 := hy0 Hn.out
  clear hc0 hx0 hy0
  have HB0 : Below (((w.alloc (.cells #[.slice A n cap, .int .i64 inc, .int .i64 delay] 24)).alloc (.cells #[.int .i64 l0, .int .i64 l1, .int .i64 m0, .int .i64 m1, .int .i64 p0, .int .i64 p1, .int .i64 turn, .int .i64 since, .bool st, .int .i64 fallen] 27))).heap.size ((w.alloc (.cells #[.slice A n cap, .int .i64 inc, .int .i64 delay] 24)).alloc (.cells #[.int .i64 l0, .int .i64 l1, .int .i64 m0, .int .i64 m1, .int .i64 p0, .int .i64 p1, .int .i64 turn, .int .i64 since, .bool st, .int .i64 fallen] 27)) w2 := hb.trans (hb0.mono (by go_size))
  have hP2 := Lib.hid (hP1.out.below hb0)
  clear hbel hs hz0 hz1 hcell hfr hb
  have hb := HB0
  clear HB0
  obtain ⟨hcell, hfr⟩ := bcell hb
  have hs := hb.size
  (try simp only [World.size_alloc] at hs)
  have hz0 : w.heap.size < w2.heap.size := by omega
  have hz1 : w.heap.size + 1 < w2.heap.size := by omega
  have hbel := (((Below.refl w.heap.size w).alloc (by go_size) _).alloc (by go_size) _).trans (hb.mono (by go_size))
  go_wp2_with fail
  refine (Left_any A n cap inc delay ps l0 l1 m0 m1 p0 p1 turn since fallen st turn a _ hn hP2.out).mono ?_
  rintro e w3 ⟨x1, c1, rfl, hc1, hx1, hy1, hb1⟩
  clear hc1 hx1 hy1
  have HB1 : Below (((w.alloc (.cells #[.slice A n cap, .int .i64 inc, .int .i64 delay] 24)).alloc (.cells #[.int .i64 l0, .int .i64 l1, .int .i64 m0, .int .i64 m1, .int .i64 p0, .int .i64 p1, .int .i64 turn, .int .i64 since, .bool st, .int .i64 fallen] 27))).heap.size ((w.alloc (.cells #[.slice A n cap, .int .i64 inc, .int .i64 delay] 24)).alloc (.cells #[.int .i64 l0, .int .i64 l1, .int .i64 m0, .int .i64 m1, .int .i64 p0, .int .i64 p1, .int .i64 turn, .int .i64 since, .bool st, .int .i64 fallen] 27)) w3 := hb.trans (hb1.mono (by go_size))
  have hP3 := Lib.hid (hP2.out.below hb1)
  clear hbel hs hz0 hz1 hcell hfr hb
  have hb := HB1
  clear HB1
  obtain ⟨hcell, hfr⟩ := bcell hb
  have hs := hb.size
  (try simp only [World.size_alloc] at hs)
  have hz0 : w.heap.size < w3.heap.size := by omega
  have hz1 : w.heap.size + 1 < w3.heap.size := by omega
  have hbel := (((Below.refl w.heap.size w).alloc (by go_size) _).alloc (by go_size) _).trans (hb.mono (by go_size))
  go_wp2_with fail
  refine (Left_any A n cap inc delay ps l0 l1 m0 m1 p0 p1 turn since fallen st _ b _ hn hP3.out).mono ?_
  rintro e w4 ⟨x2, c2, rfl, hc2, hx2, hy2, hb2⟩
  clear hc2 hx2 hy2
  have HB2 : Below (((w.alloc (.cells #[.slice A n cap, .int .i64 inc, .int .i64 delay] 24)).alloc (.cells #[.int .i64 l0, .int .i64 l1, .int .i64 m0, .int .i64 m1, .int .i64 p0, .int .i64 p1, .int .i64 turn, .int .i64 since, .bool st, .int .i64 fallen] 27))).heap.size ((w.alloc (.cells #[.slice A n cap, .int .i64 inc, .int .i64 delay] 24)).alloc (.cells #[.int .i64 l0, .int .i64 l1, .int .i64 m0, .int .i64 m1, .int .i64 p0, .int .i64 p1, .int .i64 turn, .int .i64 since, .bool st, .int .i64 fallen] 27)) w4 := hb.trans (hb2.mono (by go_size))
  have hP4 := Lib.hid (hP3.out.below hb2)
  clear hbel hs hz0 hz1 hcell hfr hb
  have hb := HB2
  clear HB2
  obtain ⟨hcell, hfr⟩ := bcell hb
  have hs := hb.size
  (try simp only [World.size_alloc] at hs)
  have hz0 : w.heap.size < w4.heap.size := by omega
  have hz1 : w.heap.size + 1 < w4.heap.size := by omega
  have hbel := (((Below.refl w.heap.size w).alloc (by go_size) _).alloc (by go_size) _).trans (hb.mono (by go_size))
  go_wp2_with fail
  refine (Left_any A n cap inc delay ps l0 l1 m0 m1 p0 p1 turn since fallen st _ a _ hn hP4.out).mono ?_
  rintro e w5 ⟨x3, c3, rfl, hc3, hx3, hy3, hb3⟩
  clear hc3 hx3 hy3
  have HB3 : Below (((w.alloc (.cells #[.slice A n cap, .int .i64 inc, .int .i64 delay] 24)).alloc (.cells #[.int .i64 l0, .int .i64 l1, .int .i64 m0, .int .i64 m1, .int .i64 p0, .int .i64 p1, .int .i64 turn, .int .i64 since, .bool st, .int .i64 fallen] 27))).heap.size ((w.alloc (.cells #[.slice A n cap, .int .i64 inc, .int .i64 delay] 24)).alloc (.cells #[.int .i64 l0, .int .i64 l1, .int .i64 m0, .int .i64 m1, .int .i64 p0, .int .i64 p1, .int .i64 turn, .int .i64 since, .bool st, .int .i64 fallen] 27)) w5 := hb.trans (hb3.mono (by go_size))
  have hP5 := Lib.hid (hP4.out.below hb3)
  clear hbel hs hz0 hz1 hcell hfr hb
  have hb := HB3
  clear HB3
  obtain ⟨hcell, hfr⟩ := bcell hb
  have hs := hb.size
  (try simp only [World.size_alloc] at hs)
  have hz0 : w.heap.size < w5.heap.size := by omega
  have hz1 : w.heap.size + 1 < w5.heap.size := by omega
  have hbel := (((Below.refl w.heap.size w).alloc (by go_size) _).alloc (by go_size) _).trans (hb.mono (by go_size))
  go_wp2
  all_goals
    go_ret
    refine ⟨rfl, ?_⟩
    go_grown

set_option maxHeartbeats 2000000 in
theorem walk2Gt (A : Option Addr) (n cap : Nat) (inc delay : Int) (ps : List (Int × Int)) (l0 l1 m0 m1 p0 p1 turn since fallen : Int) (st : Bool) (a b : Int) (w : World) (hn : n ≤ 9223372036854775807) (hp : PerAt w w.heap.size A n ps) (hab : b < a) (hyes : LeftOk n inc delay ps l0 l1 m0 m1 p0 p1 turn since fallen turn b) (hno : ¬ LeftOk n inc delay ps l0 l1 m0 m1 p0 p1 turn since fallen turn a) :
    Calls Try.prog 3 #[.agg #[.slice A n cap, .int .i64 inc, .int .i64 delay], .agg #[.int .i64 l0, .int .i64 l1, .int .i64 m0, .int .i64 m1, .int .i64 p0, .int .i64 p1, .int .i64 turn, .int .i64 since, .bool st, .int .i64 fallen], .int .i64 a, .int .i64 b] w fun e w' => e = .returned (.bool true) ∧ Below w.heap.size w w' := by
  have Hn := Lib.hid hno
  clear hno
  have Ho := Lib.hid hyes
  clear hyes
  have hP := Lib.hid ((hp.alloc (.cells #[.slice A n cap, .int .i64 inc, .int .i64 delay] 24)).alloc (.cells #[.int .i64 l0, .int .i64 l1, .int .i64 m0, .int .i64 m1, .int .i64 p0, .int .i64 p1, .int .i64 turn, .int .i64 since, .bool st, .int .i64 fallen] 27))
  clear hp
  go_enter Try.func3, Try.ntmps3
  go_wp2_with fail
  refine (ticks_any _).mono ?_
  rintro e w1 ⟨rfl, hb⟩
  obtain ⟨hcell, hfr⟩ := bcell hb
  have hs := hb.size
  (try simp only [World.size_alloc] at hs)
  have hz0 : w.heap.size < w1.heap.size := by omega
  have hz1 : w.heap.size + 1 < w1.heap.size := by omega
  have hbel := (((Below.refl w.heap.size w).alloc (by go_size) _).alloc (by go_size) _).trans (hb.mono (by go_size))
  have hP1 := Lib.hid (hP.out.below hb)
  go_wp2_with fail
  refine (Left_any A n cap inc delay ps l0 l1 m0 m1 p0 p1 turn since fallen st turn b _ hn hP1.out).mono ?_
  rintro e w2 ⟨x0, c0, rfl, hc0, hx0, hy0, hb0⟩
  obtain rfl : c0 = 0 := hc0.2 Ho.out
  clear hc0 hx0 hy0
  have HB0 : Below (((w.alloc (.cells #[.slice A n cap, .int .i64 inc, .int .i64 delay] 24)).alloc (.cells #[.int .i64 l0, .int .i64 l1, .int .i64 m0, .int .i64 m1, .int .i64 p0, .int .i64 p1, .int .i64 turn, .int .i64 since, .bool st, .int .i64 fallen] 27))).heap.size ((w.alloc (.cells #[.slice A n cap, .int .i64 inc, .int .i64 delay] 24)).alloc (.cells #[.int .i64 l0, .int .i64 l1, .int .i64 m0, .int .i64 m1, .int .i64 p0, .int .i64 p1, .int .i64 turn, .int .i64 since, .bool st, .int .i64 fallen] 27)) w2 := hb.trans (hb0.mono (by go_size))
  have hP2 := Lib.hid (hP1.out.below hb0)
  clear hbel hs hz0 hz1 hcell hfr hb
  have hb := HB0
  clear HB0
  obtain ⟨hcell, hfr⟩ := bcell hb
  have hs := hb.size
  (try simp only [World.size_alloc] at hs)
  have hz0 : w.heap.size < w2.heap.size := by omega
  have hz1 : w.heap.size + 1 < w2.heap.size := by omega
  have hbel := (((Below.refl w.heap.size w).alloc (by go_size) _).alloc (by go_size) _).trans (hb.mono (by go_size))
  go_wp2_with fail
  refine (Left_any A n cap inc delay ps l0 l1 m0 m1 p0 p1 turn since fallen st turn a _ hn hP2.out).mono ?_
  rintro e w3 ⟨x1, c1, rfl, hc1, hx1, hy1, hb1⟩
  have g1 : (c1 != 0) = true := by rw [bne_iff_ne]; exact fun h => Hn.out (hc1.1 h)
  obtain rfl : x1 = 0 := hy1 Hn.out
  clear hc1 hx1 hy1
  have HB1 : Below (((w.alloc (.cells #[.slice A n cap, .int .i64 inc, .int .i64 delay] 24)).alloc (.cells #[.int .i64 l0, .int .i64 l1, .int .i64 m0, .int .i64 m1, .int .i64 p0, .int .i64 p1, .int .i64 turn, .int .i64 since, .bool st, .int .i64 fallen] 27))).heap.size ((w.alloc (.cells #[.slice A n cap, .int .i64 inc, .int .i64 delay] 24)).alloc (.cells #[.int .i64 l0, .int .i64 l1, .int .i64 m0, .int .i64 m1, .int .i64 p0, .int .i64 p1, .int .i64 turn, .int .i64 since, .bool st, .int .i64 fallen] 27)) w3 := hb.trans (hb1.mono (by go_size))
  have hP3 := Lib.hid (hP2.out.below hb1)
  clear hbel hs hz0 hz1 hcell hfr hb
  have hb := HB1
  clear HB1
  obtain ⟨hcell, hfr⟩ := bcell hb
  have hs := hb.size
  (try simp only [World.size_alloc] at hs)
  have hz0 : w.heap.size < w3.heap.size := by omega
  have hz1 : w.heap.size + 1 < w3.heap.size := by omega
  have hbel := (((Below.refl w.heap.size w).alloc (by go_size) _).alloc (by go_size) _).trans (hb.mono (by go_size))
  go_wp2_with fail
  refine (Left_any A n cap inc delay ps l0 l1 m0 m1 p0 p1 turn since fallen st _ b _ hn hP3.out).mono ?_
  rintro e w4 ⟨x2, c2, rfl, hc2, hx2, hy2, hb2⟩
  clear hc2 hx2 hy2
  have HB2 : Below (((w.alloc (.cells #[.slice A n cap, .int .i64 inc, .int .i64 delay] 24)).alloc (.cells #[.int .i64 l0, .int .i64 l1, .int .i64 m0, .int .i64 m1, .int .i64 p0, .int .i64 p1, .int .i64 turn, .int .i64 since, .bool st, .int .i64 fallen] 27))).heap.size ((w.alloc (.cells #[.slice A n cap, .int .i64 inc, .int .i64 delay] 24)).alloc (.cells #[.int .i64 l0, .int .i64 l1, .int .i64 m0, .int .i64 m1, .int .i64 p0, .int .i64 p1, .int .i64 turn, .int .i64 since, .bool st, .int .i64 fallen] 27)) w4 := hb.trans (hb2.mono (by go_size))
  have hP4 := Lib.hid (hP3.out.below hb2)
  clear hbel hs hz0 hz1 hcell hfr hb
  have hb := HB2
  clear HB2
  obtain ⟨hcell, hfr⟩ := bcell hb
  have hs := hb.size
  (try simp only [World.size_alloc] at hs)
  have hz0 : w.heap.size < w4.heap.size := by omega
  have hz1 : w.heap.size + 1 < w4.heap.size := by omega
  have hbel := (((Below.refl w.heap.size w).alloc (by go_size) _).alloc (by go_size) _).trans (hb.mono (by go_size))
  go_wp2_with fail
  refine (Left_any A n cap inc delay ps l0 l1 m0 m1 p0 p1 turn since fallen st _ a _ hn hP4.out).mono ?_
  rintro e w5 ⟨x3, c3, rfl, hc3, hx3, hy3, hb3⟩
  clear hc3 hx3 hy3
  have HB3 : Below (((w.alloc (.cells #[.slice A n cap, .int .i64 inc, .int .i64 delay] 24)).alloc (.cells #[.int .i64 l0, .int .i64 l1, .int .i64 m0, .int .i64 m1, .int .i64 p0, .int .i64 p1, .int .i64 turn, .int .i64 since, .bool st, .int .i64 fallen] 27))).heap.size ((w.alloc (.cells #[.slice A n cap, .int .i64 inc, .int .i64 delay] 24)).alloc (.cells #[.int .i64 l0, .int .i64 l1, .int .i64 m0, .int .i64 m1, .int .i64 p0, .int .i64 p1, .int .i64 turn, .int .i64 since, .bool st, .int .i64 fallen] 27)) w5 := hb.trans (hb3.mono (by go_size))
  have hP5 := Lib.hid (hP4.out.below hb3)
  clear hbel hs hz0 hz1 hcell hfr hb
  have hb := HB3
  clear HB3
  obtain ⟨hcell, hfr⟩ := bcell hb
  have hs := hb.size
  (try simp only [World.size_alloc] at hs)
  have hz0 : w.heap.size < w5.heap.size := by omega
  have hz1 : w.heap.size + 1 < w5.heap.size := by omega
  have hbel := (((Below.refl w.heap.size w).alloc (by go_size) _).alloc (by go_size) _).trans (hb.mono (by go_size))
  go_wp2
  all_goals
    go_ret
    refine ⟨rfl, ?_⟩
    go_grown

set_option maxHeartbeats 2000000 in
theorem walk3Gt_0 (A : Option Addr) (n cap : Nat) (inc delay : Int) (ps : List (Int × Int)) (l0 l1 m0 m1 p0 p1 since fallen : Int) (st : Bool) (a b : Int) (w : World) (hn : n ≤ 9223372036854775807) (hp : PerAt w w.heap.size A n ps) (hab : b < a) (hya : LeftOk n inc delay ps l0 l1 m0 m1 p0 p1 0 since fallen 0 b) (hyb : LeftOk n inc delay ps l0 l1 m0 m1 p0 p1 0 since fallen 0 a) :
    Calls Try.prog 3 #[.agg #[.slice A n cap, .int .i64 inc, .int .i64 delay], .agg #[.int .i64 l0, .int .i64 l1, .int .i64 m0, .int .i64 m1, .int .i64 p0, .int .i64 p1, .int .i64 0, .int .i64 since, .bool st, .int .i64 fallen], .int .i64 a, .int .i64 b] w fun e w' => e = .returned (.bool true) ∧ Below w.heap.size w w' := by
  have hl : 0 ≤ l0 := hya.2.1.2.2.2.2.2.1.1
  have h1 := left_own fallen l0 (usedZ st delay since b) (usedZ st delay since a) hl (used_mono _ _ _ _ _ (by omega)) (used_nn _ _ _ _)
  have Hb' := Lib.hid hyb
  have Ha := Lib.hid hya
  have Ha' : Hid (LeftOk n inc delay ps l0 l1 m0 m1 p0 p1 0 since fallen 1 b) := Lib.hid ⟨hya.1, hya.2.1, by omega, hya.2.2.2⟩
  have Hb'' : Hid (LeftOk n inc delay ps l0 l1 m0 m1 p0 p1 0 since fallen 1 a) := Lib.hid ⟨hyb.1, hyb.2.1, by omega, hyb.2.2.2⟩
  clear hya hyb
  have hP := Lib.hid ((hp.alloc (.cells #[.slice A n cap, .int .i64 inc, .int .i64 delay] 24)).alloc (.cells #[.int .i64 l0, .int .i64 l1, .int .i64 m0, .int .i64 m1, .int .i64 p0, .int .i64 p1, .int .i64 0, .int .i64 since, .bool st, .int .i64 fallen] 27))
  clear hp
  go_enter Try.func3, Try.ntmps3
  go_wp2_with fail
  refine (ticks_any _).mono ?_
  rintro e w1 ⟨rfl, hb⟩
  obtain ⟨hcell, hfr⟩ := bcell hb
  have hs := hb.size
  (try simp only [World.size_alloc] at hs)
  have hz0 : w.heap.size < w1.heap.size := by omega
  have hz1 : w.heap.size + 1 < w1.heap.size := by omega
  have hbel := (((Below.refl w.heap.size w).alloc (by go_size) _).alloc (by go_size) _).trans (hb.mono (by go_size))
  have hP1 := Lib.hid (hP.out.below hb)
  go_wp2_with fail
  refine (Left_any A n cap inc delay ps l0 l1 m0 m1 p0 p1 0 since fallen st 0 b _ hn hP1.out).mono ?_
  rintro e w2 ⟨x0, c0, rfl, hc0, hx0, hy0, hb0⟩
  obtain rfl : c0 = 0 := hc0.2 Ha.out
  obtain rfl : x0 = leftZ true fallen l0 l0 (usedZ st delay since b) := hx0 Ha.out
  clear hc0 hx0 hy0
  have HB0 : Below (((w.alloc (.cells #[.slice A n cap, .int .i64 inc, .int .i64 delay] 24)).alloc (.cells #[.int .i64 l0, .int .i64 l1, .int .i64 m0, .int .i64 m1, .int .i64 p0, .int .i64 p1, .int .i64 0, .int .i64 since, .bool st, .int .i64 fallen] 27))).heap.size ((w.alloc (.cells #[.slice A n cap, .int .i64 inc, .int .i64 delay] 24)).alloc (.cells #[.int .i64 l0, .int .i64 l1, .int .i64 m0, .int .i64 m1, .int .i64 p0, .int .i64 p1, .int .i64 0, .int .i64 since, .bool st, .int .i64 fallen] 27)) w2 := hb.trans (hb0.mono (by go_size))
  have hP2 := Lib.hid (hP1.out.below hb0)
  clear hbel hs hz0 hz1 hcell hfr hb
  have hb := HB0
  clear HB0
  obtain ⟨hcell, hfr⟩ := bcell hb
  have hs := hb.size
  (try simp only [World.size_alloc] at hs)
  have hz0 : w.heap.size < w2.heap.size := by omega
  have hz1 : w.heap.size + 1 < w2.heap.size := by omega
  have hbel := (((Below.refl w.heap.size w).alloc (by go_size) _).alloc (by go_size) _).trans (hb.mono (by go_size))
  go_wp2_with fail
  refine (Left_any A n cap inc delay ps l0 l1 m0 m1 p0 p1 0 since fallen st 0 a _ hn hP2.out).mono ?_
  rintro e w3 ⟨x1, c1, rfl, hc1, hx1, hy1, hb1⟩
  obtain rfl : c1 = 0 := hc1.2 Hb'.out
  obtain rfl : x1 = leftZ true fallen l0 l0 (usedZ st delay since a) := hx1 Hb'.out
  clear hc1 hx1 hy1
  have HB1 : Below (((w.alloc (.cells #[.slice A n cap, .int .i64 inc, .int .i64 delay] 24)).alloc (.cells #[.int .i64 l0, .int .i64 l1, .int .i64 m0, .int .i64 m1, .int .i64 p0, .int .i64 p1, .int .i64 0, .int .i64 since, .bool st, .int .i64 fallen] 27))).heap.size ((w.alloc (.cells #[.slice A n cap, .int .i64 inc, .int .i64 delay] 24)).alloc (.cells #[.int .i64 l0, .int .i64 l1, .int .i64 m0, .int .i64 m1, .int .i64 p0, .int .i64 p1, .int .i64 0, .int .i64 since, .bool st, .int .i64 fallen] 27)) w3 := hb.trans (hb1.mono (by go_size))
  have hP3 := Lib.hid (hP2.out.below hb1)
  clear hbel hs hz0 hz1 hcell hfr hb
  have hb := HB1
  clear HB1
  obtain ⟨hcell, hfr⟩ := bcell hb
  have hs := hb.size
  (try simp only [World.size_alloc] at hs)
  have hz0 : w.heap.size < w3.heap.size := by omega
  have hz1 : w.heap.size + 1 < w3.heap.size := by omega
  have hbel := (((Below.refl w.heap.size w).alloc (by go_size) _).alloc (by go_size) _).trans (hb.mono (by go_size))
  go_wp2_with fail
  refine (Left_any A n cap inc delay ps l0 l1 m0 m1 p0 p1 0 since fallen st 1 b _ hn hP3.out).mono ?_
  rintro e w4 ⟨x2, c2, rfl, hc2, hx2, hy2, hb2⟩
  obtain rfl : c2 = 0 := hc2.2 Ha'.out
  obtain rfl : l1 = x2 := ((hx2 Ha'.out).trans (left_other _ _ _ _)).symm
  clear hc2 hx2 hy2
  have HB2 : Below (((w.alloc (.cells #[.slice A n cap, .int .i64 inc, .int .i64 delay] 24)).alloc (.cells #[.int .i64 l0, .int .i64 l1, .int .i64 m0, .int .i64 m1, .int .i64 p0, .int .i64 p1, .int .i64 0, .int .i64 since, .bool st, .int .i64 fallen] 27))).heap.size ((w.alloc (.cells #[.slice A n cap, .int .i64 inc, .int .i64 delay] 24)).alloc (.cells #[.int .i64 l0, .int .i64 l1, .int .i64 m0, .int .i64 m1, .int .i64 p0, .int .i64 p1, .int .i64 0, .int .i64 since, .bool st, .int .i64 fallen] 27)) w4 := hb.trans (hb2.mono (by go_size))
  have hP4 := Lib.hid (hP3.out.below hb2)
  clear hbel hs hz0 hz1 hcell hfr hb
  have hb := HB2
  clear HB2
  obtain ⟨hcell, hfr⟩ := bcell hb
  have hs := hb.size
  (try simp only [World.size_alloc] at hs)
  have hz0 : w.heap.size < w4.heap.size := by omega
  have hz1 : w.heap.size + 1 < w4.heap.size := by omega
  have hbel := (((Below.refl w.heap.size w).alloc (by go_size) _).alloc (by go_size) _).trans (hb.mono (by go_size))
  go_wp2_with fail
  refine (Left_any A n cap inc delay ps l0 l1 m0 m1 p0 p1 0 since fallen st 1 a _ hn hP4.out).mono ?_
  rintro e w5 ⟨x3, c3, rfl, hc3, hx3, hy3, hb3⟩
  obtain rfl : c3 = 0 := hc3.2 Hb''.out
  obtain rfl : l1 = x3 := ((hx3 Hb''.out).trans (left_other _ _ _ _)).symm
  clear hc3 hx3 hy3
  have HB3 : Below (((w.alloc (.cells #[.slice A n cap, .int .i64 inc, .int .i64 delay] 24)).alloc (.cells #[.int .i64 l0, .int .i64 l1, .int .i64 m0, .int .i64 m1, .int .i64 p0, .int .i64 p1, .int .i64 0, .int .i64 since, .bool st, .int .i64 fallen] 27))).heap.size ((w.alloc (.cells #[.slice A n cap, .int .i64 inc, .int .i64 delay] 24)).alloc (.cells #[.int .i64 l0, .int .i64 l1, .int .i64 m0, .int .i64 m1, .int .i64 p0, .int .i64 p1, .int .i64 0, .int .i64 since, .bool st, .int .i64 fallen] 27)) w5 := hb.trans (hb3.mono (by go_size))
  have hP5 := Lib.hid (hP4.out.below hb3)
  clear hbel hs hz0 hz1 hcell hfr hb
  have hb := HB3
  clear HB3
  obtain ⟨hcell, hfr⟩ := bcell hb
  have hs := hb.size
  (try simp only [World.size_alloc] at hs)
  have hz0 : w.heap.size < w5.heap.size := by omega
  have hz1 : w.heap.size + 1 < w5.heap.size := by omega
  have hbel := (((Below.refl w.heap.size w).alloc (by go_size) _).alloc (by go_size) _).trans (hb.mono (by go_size))
  go_wp2
  all_goals
    go_ret
    refine ⟨rfl, ?_⟩
    go_grown

set_option maxHeartbeats 2000000 in
theorem walk3Gt_1 (A : Option Addr) (n cap : Nat) (inc delay : Int) (ps : List (Int × Int)) (l0 l1 m0 m1 p0 p1 since fallen : Int) (st : Bool) (a b : Int) (w : World) (hn : n ≤ 9223372036854775807) (hp : PerAt w w.heap.size A n ps) (hab : b < a) (hya : LeftOk n inc delay ps l0 l1 m0 m1 p0 p1 1 since fallen 1 b) (hyb : LeftOk n inc delay ps l0 l1 m0 m1 p0 p1 1 since fallen 1 a) :
    Calls Try.prog 3 #[.agg #[.slice A n cap, .int .i64 inc, .int .i64 delay], .agg #[.int .i64 l0, .int .i64 l1, .int .i64 m0, .int .i64 m1, .int .i64 p0, .int .i64 p1, .int .i64 1, .int .i64 since, .bool st, .int .i64 fallen], .int .i64 a, .int .i64 b] w fun e w' => e = .returned (.bool true) ∧ Below w.heap.size w w' := by
  have hl : 0 ≤ l1 := hya.2.1.2.2.2.2.2.2.2.2.1
  have h1 := left_own fallen l1 (usedZ st delay since b) (usedZ st delay since a) hl (used_mono _ _ _ _ _ (by omega)) (used_nn _ _ _ _)
  have Hb' := Lib.hid hyb
  have Ha := Lib.hid hya
  have Ha' : Hid (LeftOk n inc delay ps l0 l1 m0 m1 p0 p1 1 since fallen 0 b) := Lib.hid ⟨hya.1, hya.2.1, by omega, hya.2.2.2⟩
  have Hb'' : Hid (LeftOk n inc delay ps l0 l1 m0 m1 p0 p1 1 since fallen 0 a) := Lib.hid ⟨hyb.1, hyb.2.1, by omega, hyb.2.2.2⟩
  clear hya hyb
  have hP := Lib.hid ((hp.alloc (.cells #[.slice A n cap, .int .i64 inc, .int .i64 delay] 24)).alloc (.cells #[.int .i64 l0, .int .i64 l1, .int .i64 m0, .int .i64 m1, .int .i64 p0, .int .i64 p1, .int .i64 1, .int .i64 since, .bool st, .int .i64 fallen] 27))
  clear hp
  go_enter Try.func3, Try.ntmps3
  go_wp2_with fail
  refine (ticks_any _).mono ?_
  rintro e w1 ⟨rfl, hb⟩
  obtain ⟨hcell, hfr⟩ := bcell hb
  have hs := hb.size
  (try simp only [World.size_alloc] at hs)
  have hz0 : w.heap.size < w1.heap.size := by omega
  have hz1 : w.heap.size + 1 < w1.heap.size := by omega
  have hbel := (((Below.refl w.heap.size w).alloc (by go_size) _).alloc (by go_size) _).trans (hb.mono (by go_size))
  have hP1 := Lib.hid (hP.out.below hb)
  go_wp2_with fail
  refine (Left_any A n cap inc delay ps l0 l1 m0 m1 p0 p1 1 since fallen st 1 b _ hn hP1.out).mono ?_
  rintro e w2 ⟨x0, c0, rfl, hc0, hx0, hy0, hb0⟩
  obtain rfl : c0 = 0 := hc0.2 Ha.out
  obtain rfl : x0 = leftZ true fallen l1 l1 (usedZ st delay since b) := hx0 Ha.out
  clear hc0 hx0 hy0
  have HB0 : Below (((w.alloc (.cells #[.slice A n cap, .int .i64 inc, .int .i64 delay] 24)).alloc (.cells #[.int .i64 l0, .int .i64 l1, .int .i64 m0, .int .i64 m1, .int .i64 p0, .int .i64 p1, .int .i64 1, .int .i64 since, .bool st, .int .i64 fallen] 27))).heap.size ((w.alloc (.cells #[.slice A n cap, .int .i64 inc, .int .i64 delay] 24)).alloc (.cells #[.int .i64 l0, .int .i64 l1, .int .i64 m0, .int .i64 m1, .int .i64 p0, .int .i64 p1, .int .i64 1, .int .i64 since, .bool st, .int .i64 fallen] 27)) w2 := hb.trans (hb0.mono (by go_size))
  have hP2 := Lib.hid (hP1.out.below hb0)
  clear hbel hs hz0 hz1 hcell hfr hb
  have hb := HB0
  clear HB0
  obtain ⟨hcell, hfr⟩ := bcell hb
  have hs := hb.size
  (try simp only [World.size_alloc] at hs)
  have hz0 : w.heap.size < w2.heap.size := by omega
  have hz1 : w.heap.size + 1 < w2.heap.size := by omega
  have hbel := (((Below.refl w.heap.size w).alloc (by go_size) _).alloc (by go_size) _).trans (hb.mono (by go_size))
  go_wp2_with fail
  refine (Left_any A n cap inc delay ps l0 l1 m0 m1 p0 p1 1 since fallen st 1 a _ hn hP2.out).mono ?_
  rintro e w3 ⟨x1, c1, rfl, hc1, hx1, hy1, hb1⟩
  obtain rfl : c1 = 0 := hc1.2 Hb'.out
  obtain rfl : x1 = leftZ true fallen l1 l1 (usedZ st delay since a) := hx1 Hb'.out
  clear hc1 hx1 hy1
  have HB1 : Below (((w.alloc (.cells #[.slice A n cap, .int .i64 inc, .int .i64 delay] 24)).alloc (.cells #[.int .i64 l0, .int .i64 l1, .int .i64 m0, .int .i64 m1, .int .i64 p0, .int .i64 p1, .int .i64 1, .int .i64 since, .bool st, .int .i64 fallen] 27))).heap.size ((w.alloc (.cells #[.slice A n cap, .int .i64 inc, .int .i64 delay] 24)).alloc (.cells #[.int .i64 l0, .int .i64 l1, .int .i64 m0, .int .i64 m1, .int .i64 p0, .int .i64 p1, .int .i64 1, .int .i64 since, .bool st, .int .i64 fallen] 27)) w3 := hb.trans (hb1.mono (by go_size))
  have hP3 := Lib.hid (hP2.out.below hb1)
  clear hbel hs hz0 hz1 hcell hfr hb
  have hb := HB1
  clear HB1
  obtain ⟨hcell, hfr⟩ := bcell hb
  have hs := hb.size
  (try simp only [World.size_alloc] at hs)
  have hz0 : w.heap.size < w3.heap.size := by omega
  have hz1 : w.heap.size + 1 < w3.heap.size := by omega
  have hbel := (((Below.refl w.heap.size w).alloc (by go_size) _).alloc (by go_size) _).trans (hb.mono (by go_size))
  go_wp2_with fail
  refine (Left_any A n cap inc delay ps l0 l1 m0 m1 p0 p1 1 since fallen st 0 b _ hn hP3.out).mono ?_
  rintro e w4 ⟨x2, c2, rfl, hc2, hx2, hy2, hb2⟩
  obtain rfl : c2 = 0 := hc2.2 Ha'.out
  obtain rfl : l0 = x2 := ((hx2 Ha'.out).trans (left_other _ _ _ _)).symm
  clear hc2 hx2 hy2
  have HB2 : Below (((w.alloc (.cells #[.slice A n cap, .int .i64 inc, .int .i64 delay] 24)).alloc (.cells #[.int .i64 l0, .int .i64 l1, .int .i64 m0, .int .i64 m1, .int .i64 p0, .int .i64 p1, .int .i64 1, .int .i64 since, .bool st, .int .i64 fallen] 27))).heap.size ((w.alloc (.cells #[.slice A n cap, .int .i64 inc, .int .i64 delay] 24)).alloc (.cells #[.int .i64 l0, .int .i64 l1, .int .i64 m0, .int .i64 m1, .int .i64 p0, .int .i64 p1, .int .i64 1, .int .i64 since, .bool st, .int .i64 fallen] 27)) w4 := hb.trans (hb2.mono (by go_size))
  have hP4 := Lib.hid (hP3.out.below hb2)
  clear hbel hs hz0 hz1 hcell hfr hb
  have hb := HB2
  clear HB2
  obtain ⟨hcell, hfr⟩ := bcell hb
  have hs := hb.size
  (try simp only [World.size_alloc] at hs)
  have hz0 : w.heap.size < w4.heap.size := by omega
  have hz1 : w.heap.size + 1 < w4.heap.size := by omega
  have hbel := (((Below.refl w.heap.size w).alloc (by go_size) _).alloc (by go_size) _).trans (hb.mono (by go_size))
  go_wp2_with fail
  refine (Left_any A n cap inc delay ps l0 l1 m0 m1 p0 p1 1 since fallen st 0 a _ hn hP4.out).mono ?_
  rintro e w5 ⟨x3, c3, rfl, hc3, hx3, hy3, hb3⟩
  obtain rfl : c3 = 0 := hc3.2 Hb''.out
  obtain rfl : l0 = x3 := ((hx3 Hb''.out).trans (left_other _ _ _ _)).symm
  clear hc3 hx3 hy3
  have HB3 : Below (((w.alloc (.cells #[.slice A n cap, .int .i64 inc, .int .i64 delay] 24)).alloc (.cells #[.int .i64 l0, .int .i64 l1, .int .i64 m0, .int .i64 m1, .int .i64 p0, .int .i64 p1, .int .i64 1, .int .i64 since, .bool st, .int .i64 fallen] 27))).heap.size ((w.alloc (.cells #[.slice A n cap, .int .i64 inc, .int .i64 delay] 24)).alloc (.cells #[.int .i64 l0, .int .i64 l1, .int .i64 m0, .int .i64 m1, .int .i64 p0, .int .i64 p1, .int .i64 1, .int .i64 since, .bool st, .int .i64 fallen] 27)) w5 := hb.trans (hb3.mono (by go_size))
  have hP5 := Lib.hid (hP4.out.below hb3)
  clear hbel hs hz0 hz1 hcell hfr hb
  have hb := HB3
  clear HB3
  obtain ⟨hcell, hfr⟩ := bcell hb
  have hs := hb.size
  (try simp only [World.size_alloc] at hs)
  have hz0 : w.heap.size < w5.heap.size := by omega
  have hz1 : w.heap.size + 1 < w5.heap.size := by omega
  have hbel := (((Below.refl w.heap.size w).alloc (by go_size) _).alloc (by go_size) _).trans (hb.mono (by go_size))
  go_wp2
  all_goals
    go_ret
    refine ⟨rfl, ?_⟩
    go_grown

theorem walkGt (A : Option Addr) (n cap : Nat) (inc delay : Int) (ps : List (Int × Int)) (l0 l1 m0 m1 p0 p1 turn since fallen : Int) (st : Bool) (a b : Int) (w : World) (hn : n ≤ 9223372036854775807) (hp : PerAt w w.heap.size A n ps) (hab : b < a) :
    Calls Try.prog 3 #[.agg #[.slice A n cap, .int .i64 inc, .int .i64 delay], .agg #[.int .i64 l0, .int .i64 l1, .int .i64 m0, .int .i64 m1, .int .i64 p0, .int .i64 p1, .int .i64 turn, .int .i64 since, .bool st, .int .i64 fallen], .int .i64 a, .int .i64 b] w fun e w' => e = .returned (.bool true) ∧ Below w.heap.size w w' := by
  by_cases ha : LeftOk n inc delay ps l0 l1 m0 m1 p0 p1 turn since fallen turn b
  · by_cases hb : LeftOk n inc delay ps l0 l1 m0 m1 p0 p1 turn since fallen turn a
    · have ht : turn = 0 ∨ turn = 1 := by have := ha.2.2.1; omega
      rcases ht with rfl | rfl
      · exact walk3Gt_0 A n cap inc delay ps l0 l1 m0 m1 p0 p1 since fallen st a b w hn hp hab ha hb
      · exact walk3Gt_1 A n cap inc delay ps l0 l1 m0 m1 p0 p1 since fallen st a b w hn hp hab ha hb
    · exact walk2Gt A n cap inc delay ps l0 l1 m0 m1 p0 p1 turn since fallen st a b w hn hp hab ha hb
  · exact walk1Gt A n cap inc delay ps l0 l1 m0 m1 p0 p1 turn since fallen st a b w hn hp hab ha

theorem walk (A : Option Addr) (n cap : Nat) (inc delay : Int) (ps : List (Int × Int)) (l0 l1 m0 m1 p0 p1 turn since fallen : Int) (st : Bool) (a b : Int) (w : World) (hn : n ≤ 9223372036854775807) (hp : PerAt w w.heap.size A n ps) :
    Calls Try.prog 3 #[.agg #[.slice A n cap, .int .i64 inc, .int .i64 delay], .agg #[.int .i64 l0, .int .i64 l1, .int .i64 m0, .int .i64 m1, .int .i64 p0, .int .i64 p1, .int .i64 turn, .int .i64 since, .bool st, .int .i64 fallen], .int .i64 a, .int .i64 b] w fun e w' => e = .returned (.bool true) ∧ Below w.heap.size w w' := by
  by_cases h : a ≤ b
  · exact walkLe A n cap inc delay ps l0 l1 m0 m1 p0 p1 turn since fallen st a b w hn hp h
  · exact walkGt A n cap inc delay ps l0 l1 m0 m1 p0 p1 turn since fallen st a b w hn hp (by omega)

section
theorem own : ownKnob Try.prog.godebug = none := by kernel_rfl
theorem laidOut : laidOutB Try.prog = true := by kernel_rfl

set_option maxRecDepth 100000 in
theorem lifted (os : Os) (started : os.Started) (H : Type) (enc : TypeId × Value → H) :
    ReturnsInHanded {} Try.checked os 3 .any (Rows.clockLaterSpec.pre6 enc Try.prog Try.f3 Rows.clockLaterRow.domain false) (Rows.clockLaterSpec.post enc Try.prog Try.f3 false true false false) := by
  refine returnsInHanded_of_change (C := Try.checked) own started (by kernel_rfl) Try.func3
    (ChangeSpec.witness6 (enc := enc) (C := Try.checked) false ⟨#[], #[.agg #[.slice none 0 0, .int .i64 0, .int .i64 0], .agg #[.int .i64 0, .int .i64 0, .int .i64 0, .int .i64 0, .int .i64 0, .int .i64 0, .int .i64 0, .int .i64 0, .bool false, .int .i64 0], .int .i64 0, .int .i64 0], []⟩ 8 (by kernel_rfl) (by kernel_rfl) (by kernel_rfl) (by kernel_rfl)) ?_
  intro W base args ds gs before hval0 hW hcnd _
  have hval : ∀ (j : Nat) t v, Try.f3.params[j]? = some t → args[j]? = some v → Value.okWide Try.prog W .any base t v := hval0
  have hW' := hW
  obtain ⟨p, q, hA0, hV, rfl, hfz, hnd⟩ := hW
  have hA : DataW.TrodAll enc Try.prog W 0 (fun _ => true) true Try.f3.params.toList args.toList ds p := hA0
  rw [Try.params3] at hA hval
  have hAll := hA
  obtain ⟨v0, vs0, d0, ds0, p0, q0, hargs, rfl, rfl, h0, r0⟩ := trodAll_cons hA
  obtain ⟨v1, vs1, d1, ds1, p1, q1, rfl, rfl, rfl, h1, r1⟩ := trodAll_cons r0
  obtain ⟨v2, vs2, d2, ds2, p2, q2, rfl, rfl, rfl, h2, r2⟩ := trodAll_cons r1
  obtain ⟨v3, vs3, d3, ds3, p3, q3, rfl, rfl, rfl, h3, r3⟩ := trodAll_cons r2
  obtain ⟨rfl, rfl, rfl⟩ := trodAll_nil r3
  obtain rfl : args = #[v0, v1, v2, v3] := by cases args; simp_all
  obtain ⟨rfl, rfl⟩ := trodVars_none hV
  obtain ⟨A, n, cap, inc, delay, ps, rfl, hn, hp⟩ := openR (hval 0 24 v0 rfl rfl) h0
  obtain ⟨l0, l1, m0, m1, p0, p1, turn, since, fallen, st, rfl⟩ := openC (hval 1 27 v1 rfl rfl)
  obtain ⟨a2, rfl, rfl, rfl, w2⟩ := open_int Try.underlying3 (hval 2 3 v2 rfl rfl) h2
  obtain ⟨a3, rfl, rfl, rfl, w3⟩ := open_int Try.underlying3 (hval 3 3 v3 rfl rfl) h3
  clear hA0 hval0
  refine (walk A n cap inc delay ps l0 l1 m0 m1 p0 p1 turn since fallen st a2 a3 W hn hp).mono fun e W' ⟨he, bel⟩ => ?_
  subst he
  exact ⟨_, rfl, _, _, _, [], _, [], hW', trodAll_mk1 (shut_bool Try.underlying4 _), trodAll_stays laidOut bel (by kernel_rfl) hAll, rfl, bel.frame _, fun h => by cases h⟩

theorem over : Rows.clockLaterRow.holds Try.pinned (OpenSpec.ofChange Rows.clockLaterSpec) :=
  OpenClaim.holds_of_wide 3 Try.f3 rfl rfl rfl rfl rfl rfl rfl ⟨rfl, rfl, rfl, rfl, rfl⟩ rfl rfl rfl rfl rfl (by kernel_rfl) Try.func3 (by kernel_rfl)
    (of_decide_eq_true (by kernel_rfl)) (by unfold Func.isWrapper; first | (rw [if_pos (by decide +kernel)]; kernel_rfl) | (rw [if_neg (by decide +kernel)]; exact ⟨rfl, rfl⟩))
    (fun os started H enc _ => lifted os started H enc)

theorem proved : Rows.ClockLaterSaid := over
end
#print axioms proved
end Go.Proofs.Ytpcllegmdioafaa.clockLater
