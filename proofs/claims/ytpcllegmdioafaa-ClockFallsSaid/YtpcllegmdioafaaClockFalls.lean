/- ClockFalls: a flag that has fallen stays, and the clock can be neither pressed nor stopped. For every input, no condition. -/
import Derived.Test.YtpcllegmdioafaaClkFall
import Derived.Test.YtpcllegmdioafaaClkEq
namespace Go.Proofs.Ytpcllegmdioafaa.clockFalls
open Go.ChangeShapes Go.WideShapes Go.ChangeAt Go.RowKit
set_option linter.unusedVariables false


def FallOk (n : Nat) (inc delay : Int) (ps : List (Int × Int)) (l0 l1 m0 m1 p0 p1 turn since fallen : Int) (st : Bool) : Prop := (RuleOk n inc delay ps ∧ ClkOk n l0 l1 m0 m1 p0 p1 turn since fallen) ∧ fallen < 0 ∧ st = false ∧ since + delay + ofP turn l0 l1 + 1 ≤ 100000000

theorem Fall_no (A : Option Addr) (n cap : Nat) (inc delay : Int) (ps : List (Int × Int)) (l0 l1 m0 m1 p0 p1 turn since fallen : Int) (st : Bool) (h : ¬ FallOk n inc delay ps l0 l1 m0 m1 p0 p1 turn since fallen st) (w : World) (hn : n ≤ 9223372036854775807) (hp : PerAt w w.heap.size A n ps) :
    Calls Try.prog 12 #[.agg #[.slice A n cap, .int .i64 inc, .int .i64 delay], .agg #[.int .i64 l0, .int .i64 l1, .int .i64 m0, .int .i64 m1, .int .i64 p0, .int .i64 p1, .int .i64 turn, .int .i64 since, .bool st, .int .i64 fallen]] w (fun e w' => ∃ c : Int, c ≠ 0 ∧ e = .returned (.tuple #[.int .i64 0, .int .i64 c]) ∧ Below w.heap.size w w') := by
  have key : ∀ c : Int, c ≠ 0 → ∀ (e : Ending) (w' : World), e = .returned (.tuple #[.int .i64 0, .int .i64 c]) ∧ Below w.heap.size w w' → ∃ c : Int, c ≠ 0 ∧ e = .returned (.tuple #[.int .i64 0, .int .i64 c]) ∧ Below w.heap.size w w' := fun c hc e w' ⟨a, b⟩ => ⟨c, hc, a, b⟩
  by_cases hv : RuleOk n inc delay ps ∧ ClkOk n l0 l1 m0 m1 p0 p1 turn since fallen
  · have ht : turn = 0 ∨ turn = 1 := by have := hv.2.1; omega
    rcases ht with rfl | rfl
    · by_cases hf : 0 ≤ fallen
      · exact (Fall_over_0 A n cap inc delay ps l0 l1 m0 m1 p0 p1 since fallen st w hn hp hv.1 hv.2 hf).mono (key 14 (by omega))
      · cases st
        · by_cases hl : 100000000 < since + delay + l0 + 1
          · exact (Fall_none_0 A n cap inc delay ps l0 l1 m0 m1 p0 p1 since fallen w hn hp hv.1 hv.2 (by omega) hl).mono (key 8 (by omega))
          · exact absurd ⟨hv, by omega, rfl, by have : ofP 0 l0 l1 = l0 := rfl; rw [this]; omega⟩ h
        · exact (Fall_state_0 A n cap inc delay ps l0 l1 m0 m1 p0 p1 since fallen w hn hp hv.1 hv.2 (by omega)).mono (key 10 (by omega))
    · by_cases hf : 0 ≤ fallen
      · exact (Fall_over_1 A n cap inc delay ps l0 l1 m0 m1 p0 p1 since fallen st w hn hp hv.1 hv.2 hf).mono (key 14 (by omega))
      · cases st
        · by_cases hl : 100000000 < since + delay + l1 + 1
          · exact (Fall_none_1 A n cap inc delay ps l0 l1 m0 m1 p0 p1 since fallen w hn hp hv.1 hv.2 (by omega) hl).mono (key 8 (by omega))
          · exact absurd ⟨hv, by omega, rfl, by have : ofP 1 l0 l1 = l1 := rfl; rw [this]; omega⟩ h
        · exact (Fall_state_1 A n cap inc delay ps l0 l1 m0 m1 p0 p1 since fallen w hn hp hv.1 hv.2 (by omega)).mono (key 10 (by omega))
  · exact Fall_bad A n cap inc delay ps l0 l1 m0 m1 p0 p1 turn since fallen st w hn hp hv

set_option maxHeartbeats 2000000 in
theorem walk_no (A : Option Addr) (n cap : Nat) (inc delay : Int) (ps : List (Int × Int)) (l0 l1 m0 m1 p0 p1 turn since fallen : Int) (st : Bool) (now : Int) (w : World) (hn : n ≤ 9223372036854775807) (hp : PerAt w w.heap.size A n ps) (h : ¬ FallOk n inc delay ps l0 l1 m0 m1 p0 p1 turn since fallen st) :
    Calls Try.prog 6 #[.agg #[.slice A n cap, .int .i64 inc, .int .i64 delay], .agg #[.int .i64 l0, .int .i64 l1, .int .i64 m0, .int .i64 m1, .int .i64 p0, .int .i64 p1, .int .i64 turn, .int .i64 since, .bool st, .int .i64 fallen], .int .i64 now] w fun e w' => e = .returned (.bool true) ∧ Below w.heap.size w w' := by
  have H := Lib.hid h
  clear h
  have hP := Lib.hid ((hp.alloc (.cells #[.slice A n cap, .int .i64 inc, .int .i64 delay] 24)).alloc (.cells #[.int .i64 l0, .int .i64 l1, .int .i64 m0, .int .i64 m1, .int .i64 p0, .int .i64 p1, .int .i64 turn, .int .i64 since, .bool st, .int .i64 fallen] 27))
  clear hp
  go_enter Try.func6, Try.ntmps6
  go_wp2_with fail
  refine (ticks_any _).mono ?_
  rintro e w1 ⟨rfl, hb⟩
  obtain ⟨hcell, hfr⟩ := bcell hb
  have hs := hb.size
  (try simp only [World.size_alloc] at hs)
  have hz0 : w.heap.size < w1.heap.size := by omega
  have hz1 : w.heap.size + 1 < w1.heap.size := by omega
  have hbel := (((Below.refl w.heap.size w).alloc (by go_size) _).alloc (by go_size) _).trans (hb.mono (by go_size))
  have hP1 := Lib.hid (hP.out.below hb)
  go_wp2_with fail
  refine (Fall_no A n cap inc delay ps l0 l1 m0 m1 p0 p1 turn since fallen st H.out _ hn hP1.out).mono ?_
  rintro e w2 ⟨c, hc, rfl, hb2⟩
  have h1 : (c != 0) = true := by simpa using hc
  have h2 : (c == 0) = false := by simpa using hc
  have hs2 := hb2.size
  clear hc
  have hbel3 : Below w.heap.size w w2 := hbel.trans (hb2.mono (by omega))
  go_wp2
  go_ret
  refine ⟨rfl, ?_⟩
  go_grown

set_option maxHeartbeats 2000000 in
theorem walk_lo_0 (A : Option Addr) (n cap : Nat) (inc delay : Int) (ps : List (Int × Int)) (l0 l1 m0 m1 p0 p1 since fallen : Int) (now : Int) (w : World) (hn : n ≤ 9223372036854775807) (hp : PerAt w w.heap.size A n ps) (hr : RuleOk n inc delay ps) (hk : ClkOk n l0 l1 m0 m1 p0 p1 0 since fallen) (hf : fallen < 0) (ht : (since + delay + l0 + 1) ≤ 100000000) (ho : now < (since + delay + l0 + 1)) :
    Calls Try.prog 6 #[.agg #[.slice A n cap, .int .i64 inc, .int .i64 delay], .agg #[.int .i64 l0, .int .i64 l1, .int .i64 m0, .int .i64 m1, .int .i64 p0, .int .i64 p1, .int .i64 0, .int .i64 since, .bool false, .int .i64 fallen], .int .i64 now] w fun e w' => e = .returned (.bool true) ∧ Below w.heap.size w w' := by
  have H := Lib.hid hr
  have HC := Lib.hid hk
  clear hr hk
  have hP := Lib.hid ((hp.alloc (.cells #[.slice A n cap, .int .i64 inc, .int .i64 delay] 24)).alloc (.cells #[.int .i64 l0, .int .i64 l1, .int .i64 m0, .int .i64 m1, .int .i64 p0, .int .i64 p1, .int .i64 0, .int .i64 since, .bool false, .int .i64 fallen] 27))
  clear hp
  go_enter Try.func6, Try.ntmps6
  go_wp2_with fail
  refine (ticks_any _).mono ?_
  rintro e w1 ⟨rfl, hb⟩
  obtain ⟨hcell, hfr⟩ := bcell hb
  have hs := hb.size
  (try simp only [World.size_alloc] at hs)
  have hz0 : w.heap.size < w1.heap.size := by omega
  have hz1 : w.heap.size + 1 < w1.heap.size := by omega
  have hbel := (((Below.refl w.heap.size w).alloc (by go_size) _).alloc (by go_size) _).trans (hb.mono (by go_size))
  have hP1 := Lib.hid (hP.out.below hb)
  go_wp2_with fail
  refine (Fall_ok_0 A n cap inc delay ps l0 l1 m0 m1 p0 p1 since fallen _ hn hP1.out H.out HC.out hf ht).mono ?_
  rintro e w2 ⟨rfl, hb2⟩
  have hs2 := hb2.size
  have hbel3 : Below w.heap.size w w2 := hbel.trans (hb2.mono (by omega))
  go_wp2
  go_ret
  refine ⟨rfl, ?_⟩
  go_grown

set_option maxHeartbeats 2000000 in
theorem walk_hi_0 (A : Option Addr) (n cap : Nat) (inc delay : Int) (ps : List (Int × Int)) (l0 l1 m0 m1 p0 p1 since fallen : Int) (now : Int) (w : World) (hn : n ≤ 9223372036854775807) (hp : PerAt w w.heap.size A n ps) (hr : RuleOk n inc delay ps) (hk : ClkOk n l0 l1 m0 m1 p0 p1 0 since fallen) (hf : fallen < 0) (ht : (since + delay + l0 + 1) ≤ 100000000) (ho' : (since + delay + l0 + 1) ≤ now) (ho : 100000000 < now) :
    Calls Try.prog 6 #[.agg #[.slice A n cap, .int .i64 inc, .int .i64 delay], .agg #[.int .i64 l0, .int .i64 l1, .int .i64 m0, .int .i64 m1, .int .i64 p0, .int .i64 p1, .int .i64 0, .int .i64 since, .bool false, .int .i64 fallen], .int .i64 now] w fun e w' => e = .returned (.bool true) ∧ Below w.heap.size w w' := by
  have H := Lib.hid hr
  have HC := Lib.hid hk
  clear hr hk
  have hP := Lib.hid ((hp.alloc (.cells #[.slice A n cap, .int .i64 inc, .int .i64 delay] 24)).alloc (.cells #[.int .i64 l0, .int .i64 l1, .int .i64 m0, .int .i64 m1, .int .i64 p0, .int .i64 p1, .int .i64 0, .int .i64 since, .bool false, .int .i64 fallen] 27))
  clear hp
  go_enter Try.func6, Try.ntmps6
  go_wp2_with fail
  refine (ticks_any _).mono ?_
  rintro e w1 ⟨rfl, hb⟩
  obtain ⟨hcell, hfr⟩ := bcell hb
  have hs := hb.size
  (try simp only [World.size_alloc] at hs)
  have hz0 : w.heap.size < w1.heap.size := by omega
  have hz1 : w.heap.size + 1 < w1.heap.size := by omega
  have hbel := (((Below.refl w.heap.size w).alloc (by go_size) _).alloc (by go_size) _).trans (hb.mono (by go_size))
  have hP1 := Lib.hid (hP.out.below hb)
  go_wp2_with fail
  refine (Fall_ok_0 A n cap inc delay ps l0 l1 m0 m1 p0 p1 since fallen _ hn hP1.out H.out HC.out hf ht).mono ?_
  rintro e w2 ⟨rfl, hb2⟩
  have hs2 := hb2.size
  have hbel3 : Below w.heap.size w w2 := hbel.trans (hb2.mono (by omega))
  go_wp2
  go_ret
  refine ⟨rfl, ?_⟩
  go_grown

set_option maxHeartbeats 2000000 in
theorem walk_main_0 (A : Option Addr) (n cap : Nat) (inc delay : Int) (ps : List (Int × Int)) (l0 l1 m0 m1 p0 p1 since fallen : Int) (now : Int) (w : World) (hn : n ≤ 9223372036854775807) (hp : PerAt w w.heap.size A n ps) (hr : RuleOk n inc delay ps) (hk : ClkOk n l0 l1 m0 m1 p0 p1 0 since fallen) (hf : fallen < 0) (ht : (since + delay + l0 + 1) ≤ 100000000) (ho1 : (since + delay + l0 + 1) ≤ now) (ho2 : now ≤ 100000000) :
    Calls Try.prog 6 #[.agg #[.slice A n cap, .int .i64 inc, .int .i64 delay], .agg #[.int .i64 l0, .int .i64 l1, .int .i64 m0, .int .i64 m1, .int .i64 p0, .int .i64 p1, .int .i64 0, .int .i64 since, .bool false, .int .i64 fallen], .int .i64 now] w fun e w' => e = .returned (.bool true) ∧ Below w.heap.size w w' := by
  have hsn := hk.2.2.1
  have hdl := hr.2.2.1
  have hlb : 0 ≤ l0 ∧ l0 ≤ 100000000000 := hk.2.2.2.2.2.1
  have e0 : witB now since 100000000 = true := witB_true (by omega)
  have hu : l0 < usedZ false delay since now := by unfold usedZ; simp; omega
  have hkx : ClkOk n 0 l1 m0 m1 p0 p1 0 since 0 := by unfold ClkOk at *; omega
  have HX := Lib.hid hkx
  clear hkx
  have hsame := fun w => clkSame w 0 l1 m0 m1 p0 p1 0 since 0 false
  have H := Lib.hid hr
  have HC := Lib.hid hk
  clear hr hk
  have hP := Lib.hid ((hp.alloc (.cells #[.slice A n cap, .int .i64 inc, .int .i64 delay] 24)).alloc (.cells #[.int .i64 l0, .int .i64 l1, .int .i64 m0, .int .i64 m1, .int .i64 p0, .int .i64 p1, .int .i64 0, .int .i64 since, .bool false, .int .i64 fallen] 27))
  clear hp
  go_enter Try.func6, Try.ntmps6
  go_wp2_with fail
  refine (ticks_any _).mono ?_
  rintro e w1 ⟨rfl, hb⟩
  obtain ⟨hcell, hfr⟩ := bcell hb
  have hs := hb.size
  (try simp only [World.size_alloc] at hs)
  have hz0 : w.heap.size < w1.heap.size := by omega
  have hz1 : w.heap.size + 1 < w1.heap.size := by omega
  have hbel := (((Below.refl w.heap.size w).alloc (by go_size) _).alloc (by go_size) _).trans (hb.mono (by go_size))
  have hP1 := Lib.hid (hP.out.below hb)
  go_wp2_with fail
  refine (Fall_ok_0 A n cap inc delay ps l0 l1 m0 m1 p0 p1 since fallen _ hn hP1.out H.out HC.out hf ht).mono ?_
  rintro e w2 ⟨rfl, hb2⟩
  obtain ⟨hcell2, hfr2⟩ := bcell hb2
  have hs2 := hb2.size
  (try simp only [World.size_alloc] at hs2)
  have y2_0 : w.heap.size < w2.heap.size := by omega
  have y2_1 : w.heap.size + 1 < w2.heap.size := by omega
  have hP2 := Lib.hid (hP1.out.below hb2)
  go_wp2_with fail
  refine (Look_fall_0 A n cap inc delay ps l0 l1 m0 m1 p0 p1 since fallen false now _ hn hP2.out H.out HC.out e0 hf hu).mono ?_
  rintro e w3 ⟨rfl, hb3⟩
  obtain ⟨hcell3, hfr3⟩ := bcell hb3
  have hs3 := hb3.size
  (try simp only [World.size_alloc] at hs3)
  have y3_0 : w.heap.size < w3.heap.size := by omega
  have y3_1 : w.heap.size + 1 < w3.heap.size := by omega
  have hP3 := Lib.hid ((hP2.out.below hb3).alloc (.cells #[.int .i64 0, .int .i64 l1, .int .i64 m0, .int .i64 m1, .int .i64 p0, .int .i64 p1, .int .i64 0, .int .i64 since, .bool false, .int .i64 0] 27))
  go_wp2_with fail
  refine (Look_over A n cap inc delay ps 0 l1 m0 m1 p0 p1 0 since 0 false now _ hn hP3.out H.out HX.out e0 (by omega)).mono ?_
  rintro e w4 ⟨rfl, hb4⟩
  obtain ⟨hcell4, hfr4⟩ := bcell hb4
  have hs4 := hb4.size
  (try simp only [World.size_alloc] at hs4)
  have y4_0 : w.heap.size < w4.heap.size := by omega
  have y4_1 : w.heap.size + 1 < w4.heap.size := by omega
  have y4_2 : w3.heap.size < w4.heap.size := by omega
  have hP4 := Lib.hid ((hP3.out.below hb4).alloc (.cells #[.int .i64 0, .int .i64 l1, .int .i64 m0, .int .i64 m1, .int .i64 p0, .int .i64 p1, .int .i64 0, .int .i64 since, .bool false, .int .i64 0] 27))
  go_wp2_with fail
  refine (Press_err A n cap inc delay ps l0 l1 m0 m1 p0 p1 0 since fallen false now _ hn hP4.out (fun c => c = 14) (fun _ h => by omega) (fun W hW => (ready_fall_0 A n cap inc delay ps l0 l1 m0 m1 p0 p1 since fallen false now false W hn hW H.out HC.out e0 hf hu).mono fun e w' ⟨a, b⟩ => ⟨14, rfl, a, b⟩)).mono ?_
  rintro e w5 ⟨c5, hc5, rfl, hb5⟩
  obtain ⟨hcell5, hfr5⟩ := bcell hb5
  have hs5 := hb5.size
  (try simp only [World.size_alloc] at hs5)
  have y5_0 : w.heap.size < w5.heap.size := by omega
  have y5_1 : w.heap.size + 1 < w5.heap.size := by omega
  have y5_2 : w3.heap.size < w5.heap.size := by omega
  have y5_3 : w4.heap.size < w5.heap.size := by omega
  subst hc5
  have hP5 := Lib.hid ((hP4.out.below hb5).alloc (.cells #[.int .i64 0, .int .i64 0, .int .i64 0, .int .i64 0, .int .i64 0, .int .i64 0, .int .i64 0, .int .i64 0, .bool false, .int .i64 0] 27))
  go_wp2_with fail
  refine (Stop_err A n cap inc delay ps 0 l1 m0 m1 p0 p1 0 since 0 false now _ hn hP5.out (fun c => c = 14) (fun _ h => by omega) (fun W hW => (ready_over A n cap inc delay ps 0 l1 m0 m1 p0 p1 0 since 0 false now false W hn hW H.out HX.out e0 (by omega)).mono fun e w' ⟨a, b⟩ => ⟨14, rfl, a, b⟩)).mono ?_
  rintro e w6 ⟨c6, hc6, rfl, hb6⟩
  obtain ⟨hcell6, hfr6⟩ := bcell hb6
  have hs6 := hb6.size
  (try simp only [World.size_alloc] at hs6)
  have y6_0 : w.heap.size < w6.heap.size := by omega
  have y6_1 : w.heap.size + 1 < w6.heap.size := by omega
  have y6_2 : w3.heap.size < w6.heap.size := by omega
  have y6_3 : w4.heap.size < w6.heap.size := by omega
  subst hc6
  go_wp2
  go_ret
  refine ⟨rfl, ?_⟩
  exact ((((((((hbel.trans (hb2.mono (by go_size))).trans (hb3.mono (by go_size))).alloc (by go_size) _).trans (hb4.mono (by go_size))).alloc (by go_size) _).trans (hb5.mono (by go_size))).alloc (by go_size) _).trans (hb6.mono (by go_size))).alloc (by go_size) _

set_option maxHeartbeats 2000000 in
theorem walk_lo_1 (A : Option Addr) (n cap : Nat) (inc delay : Int) (ps : List (Int × Int)) (l0 l1 m0 m1 p0 p1 since fallen : Int) (now : Int) (w : World) (hn : n ≤ 9223372036854775807) (hp : PerAt w w.heap.size A n ps) (hr : RuleOk n inc delay ps) (hk : ClkOk n l0 l1 m0 m1 p0 p1 1 since fallen) (hf : fallen < 0) (ht : (since + delay + l1 + 1) ≤ 100000000) (ho : now < (since + delay + l1 + 1)) :
    Calls Try.prog 6 #[.agg #[.slice A n cap, .int .i64 inc, .int .i64 delay], .agg #[.int .i64 l0, .int .i64 l1, .int .i64 m0, .int .i64 m1, .int .i64 p0, .int .i64 p1, .int .i64 1, .int .i64 since, .bool false, .int .i64 fallen], .int .i64 now] w fun e w' => e = .returned (.bool true) ∧ Below w.heap.size w w' := by
  have H := Lib.hid hr
  have HC := Lib.hid hk
  clear hr hk
  have hP := Lib.hid ((hp.alloc (.cells #[.slice A n cap, .int .i64 inc, .int .i64 delay] 24)).alloc (.cells #[.int .i64 l0, .int .i64 l1, .int .i64 m0, .int .i64 m1, .int .i64 p0, .int .i64 p1, .int .i64 1, .int .i64 since, .bool false, .int .i64 fallen] 27))
  clear hp
  go_enter Try.func6, Try.ntmps6
  go_wp2_with fail
  refine (ticks_any _).mono ?_
  rintro e w1 ⟨rfl, hb⟩
  obtain ⟨hcell, hfr⟩ := bcell hb
  have hs := hb.size
  (try simp only [World.size_alloc] at hs)
  have hz0 : w.heap.size < w1.heap.size := by omega
  have hz1 : w.heap.size + 1 < w1.heap.size := by omega
  have hbel := (((Below.refl w.heap.size w).alloc (by go_size) _).alloc (by go_size) _).trans (hb.mono (by go_size))
  have hP1 := Lib.hid (hP.out.below hb)
  go_wp2_with fail
  refine (Fall_ok_1 A n cap inc delay ps l0 l1 m0 m1 p0 p1 since fallen _ hn hP1.out H.out HC.out hf ht).mono ?_
  rintro e w2 ⟨rfl, hb2⟩
  have hs2 := hb2.size
  have hbel3 : Below w.heap.size w w2 := hbel.trans (hb2.mono (by omega))
  go_wp2
  go_ret
  refine ⟨rfl, ?_⟩
  go_grown

set_option maxHeartbeats 2000000 in
theorem walk_hi_1 (A : Option Addr) (n cap : Nat) (inc delay : Int) (ps : List (Int × Int)) (l0 l1 m0 m1 p0 p1 since fallen : Int) (now : Int) (w : World) (hn : n ≤ 9223372036854775807) (hp : PerAt w w.heap.size A n ps) (hr : RuleOk n inc delay ps) (hk : ClkOk n l0 l1 m0 m1 p0 p1 1 since fallen) (hf : fallen < 0) (ht : (since + delay + l1 + 1) ≤ 100000000) (ho' : (since + delay + l1 + 1) ≤ now) (ho : 100000000 < now) :
    Calls Try.prog 6 #[.agg #[.slice A n cap, .int .i64 inc, .int .i64 delay], .agg #[.int .i64 l0, .int .i64 l1, .int .i64 m0, .int .i64 m1, .int .i64 p0, .int .i64 p1, .int .i64 1, .int .i64 since, .bool false, .int .i64 fallen], .int .i64 now] w fun e w' => e = .returned (.bool true) ∧ Below w.heap.size w w' := by
  have H := Lib.hid hr
  have HC := Lib.hid hk
  clear hr hk
  have hP := Lib.hid ((hp.alloc (.cells #[.slice A n cap, .int .i64 inc, .int .i64 delay] 24)).alloc (.cells #[.int .i64 l0, .int .i64 l1, .int .i64 m0, .int .i64 m1, .int .i64 p0, .int .i64 p1, .int .i64 1, .int .i64 since, .bool false, .int .i64 fallen] 27))
  clear hp
  go_enter Try.func6, Try.ntmps6
  go_wp2_with fail
  refine (ticks_any _).mono ?_
  rintro e w1 ⟨rfl, hb⟩
  obtain ⟨hcell, hfr⟩ := bcell hb
  have hs := hb.size
  (try simp only [World.size_alloc] at hs)
  have hz0 : w.heap.size < w1.heap.size := by omega
  have hz1 : w.heap.size + 1 < w1.heap.size := by omega
  have hbel := (((Below.refl w.heap.size w).alloc (by go_size) _).alloc (by go_size) _).trans (hb.mono (by go_size))
  have hP1 := Lib.hid (hP.out.below hb)
  go_wp2_with fail
  refine (Fall_ok_1 A n cap inc delay ps l0 l1 m0 m1 p0 p1 since fallen _ hn hP1.out H.out HC.out hf ht).mono ?_
  rintro e w2 ⟨rfl, hb2⟩
  have hs2 := hb2.size
  have hbel3 : Below w.heap.size w w2 := hbel.trans (hb2.mono (by omega))
  go_wp2
  go_ret
  refine ⟨rfl, ?_⟩
  go_grown

set_option maxHeartbeats 2000000 in
theorem walk_main_1 (A : Option Addr) (n cap : Nat) (inc delay : Int) (ps : List (Int × Int)) (l0 l1 m0 m1 p0 p1 since fallen : Int) (now : Int) (w : World) (hn : n ≤ 9223372036854775807) (hp : PerAt w w.heap.size A n ps) (hr : RuleOk n inc delay ps) (hk : ClkOk n l0 l1 m0 m1 p0 p1 1 since fallen) (hf : fallen < 0) (ht : (since + delay + l1 + 1) ≤ 100000000) (ho1 : (since + delay + l1 + 1) ≤ now) (ho2 : now ≤ 100000000) :
    Calls Try.prog 6 #[.agg #[.slice A n cap, .int .i64 inc, .int .i64 delay], .agg #[.int .i64 l0, .int .i64 l1, .int .i64 m0, .int .i64 m1, .int .i64 p0, .int .i64 p1, .int .i64 1, .int .i64 since, .bool false, .int .i64 fallen], .int .i64 now] w fun e w' => e = .returned (.bool true) ∧ Below w.heap.size w w' := by
  have hsn := hk.2.2.1
  have hdl := hr.2.2.1
  have hlb : 0 ≤ l1 ∧ l1 ≤ 100000000000 := hk.2.2.2.2.2.2.2.2
  have e0 : witB now since 100000000 = true := witB_true (by omega)
  have hu : l1 < usedZ false delay since now := by unfold usedZ; simp; omega
  have hkx : ClkOk n l0 0 m0 m1 p0 p1 1 since 1 := by unfold ClkOk at *; omega
  have HX := Lib.hid hkx
  clear hkx
  have hsame := fun w => clkSame w l0 0 m0 m1 p0 p1 1 since 1 false
  have H := Lib.hid hr
  have HC := Lib.hid hk
  clear hr hk
  have hP := Lib.hid ((hp.alloc (.cells #[.slice A n cap, .int .i64 inc, .int .i64 delay] 24)).alloc (.cells #[.int .i64 l0, .int .i64 l1, .int .i64 m0, .int .i64 m1, .int .i64 p0, .int .i64 p1, .int .i64 1, .int .i64 since, .bool false, .int .i64 fallen] 27))
  clear hp
  go_enter Try.func6, Try.ntmps6
  go_wp2_with fail
  refine (ticks_any _).mono ?_
  rintro e w1 ⟨rfl, hb⟩
  obtain ⟨hcell, hfr⟩ := bcell hb
  have hs := hb.size
  (try simp only [World.size_alloc] at hs)
  have hz0 : w.heap.size < w1.heap.size := by omega
  have hz1 : w.heap.size + 1 < w1.heap.size := by omega
  have hbel := (((Below.refl w.heap.size w).alloc (by go_size) _).alloc (by go_size) _).trans (hb.mono (by go_size))
  have hP1 := Lib.hid (hP.out.below hb)
  go_wp2_with fail
  refine (Fall_ok_1 A n cap inc delay ps l0 l1 m0 m1 p0 p1 since fallen _ hn hP1.out H.out HC.out hf ht).mono ?_
  rintro e w2 ⟨rfl, hb2⟩
  obtain ⟨hcell2, hfr2⟩ := bcell hb2
  have hs2 := hb2.size
  (try simp only [World.size_alloc] at hs2)
  have y2_0 : w.heap.size < w2.heap.size := by omega
  have y2_1 : w.heap.size + 1 < w2.heap.size := by omega
  have hP2 := Lib.hid (hP1.out.below hb2)
  go_wp2_with fail
  refine (Look_fall_1 A n cap inc delay ps l0 l1 m0 m1 p0 p1 since fallen false now _ hn hP2.out H.out HC.out e0 hf hu).mono ?_
  rintro e w3 ⟨rfl, hb3⟩
  obtain ⟨hcell3, hfr3⟩ := bcell hb3
  have hs3 := hb3.size
  (try simp only [World.size_alloc] at hs3)
  have y3_0 : w.heap.size < w3.heap.size := by omega
  have y3_1 : w.heap.size + 1 < w3.heap.size := by omega
  have hP3 := Lib.hid ((hP2.out.below hb3).alloc (.cells #[.int .i64 l0, .int .i64 0, .int .i64 m0, .int .i64 m1, .int .i64 p0, .int .i64 p1, .int .i64 1, .int .i64 since, .bool false, .int .i64 1] 27))
  go_wp2_with fail
  refine (Look_over A n cap inc delay ps l0 0 m0 m1 p0 p1 1 since 1 false now _ hn hP3.out H.out HX.out e0 (by omega)).mono ?_
  rintro e w4 ⟨rfl, hb4⟩
  obtain ⟨hcell4, hfr4⟩ := bcell hb4
  have hs4 := hb4.size
  (try simp only [World.size_alloc] at hs4)
  have y4_0 : w.heap.size < w4.heap.size := by omega
  have y4_1 : w.heap.size + 1 < w4.heap.size := by omega
  have y4_2 : w3.heap.size < w4.heap.size := by omega
  have hP4 := Lib.hid ((hP3.out.below hb4).alloc (.cells #[.int .i64 l0, .int .i64 0, .int .i64 m0, .int .i64 m1, .int .i64 p0, .int .i64 p1, .int .i64 1, .int .i64 since, .bool false, .int .i64 1] 27))
  go_wp2_with fail
  refine (Press_err A n cap inc delay ps l0 l1 m0 m1 p0 p1 1 since fallen false now _ hn hP4.out (fun c => c = 14) (fun _ h => by omega) (fun W hW => (ready_fall_1 A n cap inc delay ps l0 l1 m0 m1 p0 p1 since fallen false now false W hn hW H.out HC.out e0 hf hu).mono fun e w' ⟨a, b⟩ => ⟨14, rfl, a, b⟩)).mono ?_
  rintro e w5 ⟨c5, hc5, rfl, hb5⟩
  obtain ⟨hcell5, hfr5⟩ := bcell hb5
  have hs5 := hb5.size
  (try simp only [World.size_alloc] at hs5)
  have y5_0 : w.heap.size < w5.heap.size := by omega
  have y5_1 : w.heap.size + 1 < w5.heap.size := by omega
  have y5_2 : w3.heap.size < w5.heap.size := by omega
  have y5_3 : w4.heap.size < w5.heap.size := by omega
  subst hc5
  have hP5 := Lib.hid ((hP4.out.below hb5).alloc (.cells #[.int .i64 0, .int .i64 0, .int .i64 0, .int .i64 0, .int .i64 0, .int .i64 0, .int .i64 0, .int .i64 0, .bool false, .int .i64 0] 27))
  go_wp2_with fail
  refine (Stop_err A n cap inc delay ps l0 0 m0 m1 p0 p1 1 since 1 false now _ hn hP5.out (fun c => c = 14) (fun _ h => by omega) (fun W hW => (ready_over A n cap inc delay ps l0 0 m0 m1 p0 p1 1 since 1 false now false W hn hW H.out HX.out e0 (by omega)).mono fun e w' ⟨a, b⟩ => ⟨14, rfl, a, b⟩)).mono ?_
  rintro e w6 ⟨c6, hc6, rfl, hb6⟩
  obtain ⟨hcell6, hfr6⟩ := bcell hb6
  have hs6 := hb6.size
  (try simp only [World.size_alloc] at hs6)
  have y6_0 : w.heap.size < w6.heap.size := by omega
  have y6_1 : w.heap.size + 1 < w6.heap.size := by omega
  have y6_2 : w3.heap.size < w6.heap.size := by omega
  have y6_3 : w4.heap.size < w6.heap.size := by omega
  subst hc6
  go_wp2
  go_ret
  refine ⟨rfl, ?_⟩
  exact ((((((((hbel.trans (hb2.mono (by go_size))).trans (hb3.mono (by go_size))).alloc (by go_size) _).trans (hb4.mono (by go_size))).alloc (by go_size) _).trans (hb5.mono (by go_size))).alloc (by go_size) _).trans (hb6.mono (by go_size))).alloc (by go_size) _

theorem walk (A : Option Addr) (n cap : Nat) (inc delay : Int) (ps : List (Int × Int)) (l0 l1 m0 m1 p0 p1 turn since fallen : Int) (st : Bool) (now : Int) (w : World) (hn : n ≤ 9223372036854775807) (hp : PerAt w w.heap.size A n ps) :
    Calls Try.prog 6 #[.agg #[.slice A n cap, .int .i64 inc, .int .i64 delay], .agg #[.int .i64 l0, .int .i64 l1, .int .i64 m0, .int .i64 m1, .int .i64 p0, .int .i64 p1, .int .i64 turn, .int .i64 since, .bool st, .int .i64 fallen], .int .i64 now] w fun e w' => e = .returned (.bool true) ∧ Below w.heap.size w w' := by
  by_cases h : FallOk n inc delay ps l0 l1 m0 m1 p0 p1 turn since fallen st
  · obtain ⟨⟨hr, hk⟩, hf, rfl, ht⟩ := h
    have htu : turn = 0 ∨ turn = 1 := by have := hk.1; omega
    rcases htu with rfl | rfl
    · by_cases h1 : now < since + delay + l0 + 1
      · exact walk_lo_0 A n cap inc delay ps l0 l1 m0 m1 p0 p1 since fallen now w hn hp hr hk hf ht h1
      · by_cases h2 : 100000000 < now
        · exact walk_hi_0 A n cap inc delay ps l0 l1 m0 m1 p0 p1 since fallen now w hn hp hr hk hf ht (by omega) h2
        · exact walk_main_0 A n cap inc delay ps l0 l1 m0 m1 p0 p1 since fallen now w hn hp hr hk hf ht (by omega) (by omega)
    · by_cases h1 : now < since + delay + l1 + 1
      · exact walk_lo_1 A n cap inc delay ps l0 l1 m0 m1 p0 p1 since fallen now w hn hp hr hk hf ht h1
      · by_cases h2 : 100000000 < now
        · exact walk_hi_1 A n cap inc delay ps l0 l1 m0 m1 p0 p1 since fallen now w hn hp hr hk hf ht (by omega) h2
        · exact walk_main_1 A n cap inc delay ps l0 l1 m0 m1 p0 p1 since fallen now w hn hp hr hk hf ht (by omega) (by omega)
  · exact walk_no A n cap inc delay ps l0 l1 m0 m1 p0 p1 turn since fallen st now w hn hp h

section
theorem own : ownKnob Try.prog.godebug = none := by kernel_rfl
theorem laidOut : laidOutB Try.prog = true := by kernel_rfl

set_option maxRecDepth 100000 in
theorem lifted (os : Os) (started : os.Started) (H : Type) (enc : TypeId × Value → H) :
    ReturnsInHanded {} Try.checked os 6 .any (Rows.clockFallsSpec.pre6 enc Try.prog Try.f6 Rows.clockFallsRow.domain false) (Rows.clockFallsSpec.post enc Try.prog Try.f6 false true false false) := by
  refine returnsInHanded_of_change (C := Try.checked) own started (by kernel_rfl) Try.func6
    (ChangeSpec.witness6 (enc := enc) (C := Try.checked) false ⟨#[], #[.agg #[.slice none 0 0, .int .i64 0, .int .i64 0], .agg #[.int .i64 0, .int .i64 0, .int .i64 0, .int .i64 0, .int .i64 0, .int .i64 0, .int .i64 0, .int .i64 0, .bool false, .int .i64 0], .int .i64 0], []⟩ 8 (by kernel_rfl) (by kernel_rfl) (by kernel_rfl) (by kernel_rfl)) ?_
  intro W base args ds gs before hval0 hW hcnd _
  have hval : ∀ (j : Nat) t v, Try.f6.params[j]? = some t → args[j]? = some v → Value.okWide Try.prog W .any base t v := hval0
  have hW' := hW
  obtain ⟨p, q, hA0, hV, rfl, hfz, hnd⟩ := hW
  have hA : DataW.TrodAll enc Try.prog W 0 (fun _ => true) true Try.f6.params.toList args.toList ds p := hA0
  rw [Try.params6] at hA hval
  have hAll := hA
  obtain ⟨v0, vs0, d0, ds0, p0, q0, hargs, rfl, rfl, h0, r0⟩ := trodAll_cons hA
  obtain ⟨v1, vs1, d1, ds1, p1, q1, rfl, rfl, rfl, h1, r1⟩ := trodAll_cons r0
  obtain ⟨v2, vs2, d2, ds2, p2, q2, rfl, rfl, rfl, h2, r2⟩ := trodAll_cons r1
  obtain ⟨rfl, rfl, rfl⟩ := trodAll_nil r2
  obtain rfl : args = #[v0, v1, v2] := by cases args; simp_all
  obtain ⟨rfl, rfl⟩ := trodVars_none hV
  obtain ⟨A, n, cap, inc, delay, ps, rfl, hn, hp⟩ := openR (hval 0 24 v0 rfl rfl) h0
  obtain ⟨l0, l1, m0, m1, p0, p1, turn, since, fallen, st, rfl⟩ := openC (hval 1 27 v1 rfl rfl)
  obtain ⟨a2, rfl, rfl, rfl, w2⟩ := open_int Try.underlying3 (hval 2 3 v2 rfl rfl) h2
  clear hA0 hval0
  refine (walk A n cap inc delay ps l0 l1 m0 m1 p0 p1 turn since fallen st a2 W hn hp).mono fun e W' ⟨he, bel⟩ => ?_
  subst he
  exact ⟨_, rfl, _, _, _, [], _, [], hW', trodAll_mk1 (shut_bool Try.underlying4 _), trodAll_stays laidOut bel (by kernel_rfl) hAll, rfl, bel.frame _, fun h => by cases h⟩

theorem over : Rows.clockFallsRow.holds Try.pinned (OpenSpec.ofChange Rows.clockFallsSpec) :=
  OpenClaim.holds_of_wide 6 Try.f6 rfl rfl rfl rfl rfl rfl rfl ⟨rfl, rfl, rfl, rfl, rfl⟩ rfl rfl rfl rfl rfl (by kernel_rfl) Try.func6 (by kernel_rfl)
    (of_decide_eq_true (by kernel_rfl)) (by unfold Func.isWrapper; first | (rw [if_pos (by decide +kernel)]; kernel_rfl) | (rw [if_neg (by decide +kernel)]; exact ⟨rfl, rfl⟩))
    (fun os started H enc _ => lifted os started H enc)

theorem proved : Rows.ClockFallsSaid := over
end
#print axioms proved
end Go.Proofs.Ytpcllegmdioafaa.clockFalls
