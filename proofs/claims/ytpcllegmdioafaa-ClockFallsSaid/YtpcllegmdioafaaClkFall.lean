/- The contract of clock.Fall. -/
import Derived.Test.YtpcllegmdioafaaClkRun
namespace Go.Proofs.Ytpcllegmdioafaa
open Go.ChangeShapes Go.WideShapes Go.ChangeAt Go.RowKit
set_option linter.unusedVariables false

set_option maxHeartbeats 1000000 in
theorem Fall_bad (A : Option Addr) (n cap : Nat) (inc delay : Int) (ps : List (Int × Int)) (l0 l1 m0 m1 p0 p1 turn since fallen : Int) (st : Bool) (w : World) (hn : n ≤ 9223372036854775807) (hp : PerAt w w.heap.size A n ps) (h : ¬ (RuleOk n inc delay ps ∧ ClkOk n l0 l1 m0 m1 p0 p1 turn since fallen)) :
    Calls Try.prog 12 #[.agg #[.slice A n cap, .int .i64 inc, .int .i64 delay], .agg #[.int .i64 l0, .int .i64 l1, .int .i64 m0, .int .i64 m1, .int .i64 p0, .int .i64 p1, .int .i64 turn, .int .i64 since, .bool st, .int .i64 fallen]] w (fun e w' => ∃ c : Int, c ≠ 0 ∧ e = .returned (.tuple #[.int .i64 0, .int .i64 c]) ∧ Below w.heap.size w w') := by
  have H := Lib.hid h
  clear h
  have hP := Lib.hid ((hp.alloc (.cells #[.slice A n cap, .int .i64 inc, .int .i64 delay] 24)).alloc (.cells #[.int .i64 l0, .int .i64 l1, .int .i64 m0, .int .i64 m1, .int .i64 p0, .int .i64 p1, .int .i64 turn, .int .i64 since, .bool st, .int .i64 fallen] 27))
  clear hp
  go_enter Try.func12, Try.ntmps12
  go_wp2_with fail
  refine (Valid_any A n cap inc delay ps l0 l1 m0 m1 p0 p1 turn since fallen st _ hn (hP.out)).mono ?_
  rintro e w1 ⟨c, rfl, hc, hb⟩
  have h1 : (c != 0) = true := by rw [bne_iff_ne]; exact fun h0 => H.out (hc.1 h0)
  clear hc
  obtain ⟨hcell, hfr⟩ := bcell hb
  have hs := hb.size
  (try simp only [World.size_alloc] at hs)
  have hz0 : w.heap.size < w1.heap.size := by omega
  have hz1 : w.heap.size + 1 < w1.heap.size := by omega
  have hbel := (((Below.refl w.heap.size w).alloc (by go_size) _).alloc (by go_size) _).trans (hb.mono (by go_size))
  go_wp2
  go_ret2
  refine ⟨c, by simpa using h1, rfl, ?_⟩
  go_grown

set_option maxHeartbeats 1000000 in
theorem Fall_over_0 (A : Option Addr) (n cap : Nat) (inc delay : Int) (ps : List (Int × Int)) (l0 l1 m0 m1 p0 p1 since fallen : Int) (st : Bool) (w : World) (hn : n ≤ 9223372036854775807) (hp : PerAt w w.heap.size A n ps) (hr : RuleOk n inc delay ps) (hk : ClkOk n l0 l1 m0 m1 p0 p1 0 since fallen) (hf : 0 ≤ fallen) :
    Calls Try.prog 12 #[.agg #[.slice A n cap, .int .i64 inc, .int .i64 delay], .agg #[.int .i64 l0, .int .i64 l1, .int .i64 m0, .int .i64 m1, .int .i64 p0, .int .i64 p1, .int .i64 0, .int .i64 since, .bool st, .int .i64 fallen]] w (fun e w' => e = .returned (.tuple #[.int .i64 0, .int .i64 14]) ∧ Below w.heap.size w w') := by
  have hsn := hk.2.2.1
  have hdl := hr.2.2.1
  have hlb : 0 ≤ l0 ∧ l0 ≤ 100000000000 := hk.2.2.2.2.2.1
  have H := Lib.hid hr
  have HC := Lib.hid hk
  clear hr hk
  have hP := Lib.hid ((hp.alloc (.cells #[.slice A n cap, .int .i64 inc, .int .i64 delay] 24)).alloc (.cells #[.int .i64 l0, .int .i64 l1, .int .i64 m0, .int .i64 m1, .int .i64 p0, .int .i64 p1, .int .i64 0, .int .i64 since, .bool st, .int .i64 fallen] 27))
  clear hp
  go_enter Try.func12, Try.ntmps12
  go_wp2_with fail
  refine (Valid_any A n cap inc delay ps l0 l1 m0 m1 p0 p1 0 since fallen st _ hn (hP.out)).mono ?_
  rintro e w1 ⟨c, rfl, hc, hb⟩
  obtain rfl : c = 0 := hc.2 ⟨H.out, HC.out⟩
  clear hc
  obtain ⟨hcell, hfr⟩ := bcell hb
  have hs := hb.size
  (try simp only [World.size_alloc] at hs)
  have hz0 : w.heap.size < w1.heap.size := by omega
  have hz1 : w.heap.size + 1 < w1.heap.size := by omega
  have hbel := (((Below.refl w.heap.size w).alloc (by go_size) _).alloc (by go_size) _).trans (hb.mono (by go_size))
  go_wp2_with fail
  have u1 : IntKind.i64.wrap (since + delay) = since + delay := IntWalk.i64_in _ (by omega)
  have u2 : IntKind.i64.wrap (since + delay + l0) = since + delay + l0 := IntWalk.i64_in _ (by omega)
  have u3 : IntKind.i64.wrap (since + delay + l0 + 1) = since + delay + l0 + 1 := IntWalk.i64_in _ (by omega)
  go_quiet (fail)
  clear u1 u2 u3
  have hbel3 := below_drewN hbel nq
  go_wp2
  go_ret2
  refine ⟨rfl, ?_⟩
  go_grown

set_option maxHeartbeats 1000000 in
theorem Fall_state_0 (A : Option Addr) (n cap : Nat) (inc delay : Int) (ps : List (Int × Int)) (l0 l1 m0 m1 p0 p1 since fallen : Int) (w : World) (hn : n ≤ 9223372036854775807) (hp : PerAt w w.heap.size A n ps) (hr : RuleOk n inc delay ps) (hk : ClkOk n l0 l1 m0 m1 p0 p1 0 since fallen) (hf : fallen < 0) :
    Calls Try.prog 12 #[.agg #[.slice A n cap, .int .i64 inc, .int .i64 delay], .agg #[.int .i64 l0, .int .i64 l1, .int .i64 m0, .int .i64 m1, .int .i64 p0, .int .i64 p1, .int .i64 0, .int .i64 since, .bool true, .int .i64 fallen]] w (fun e w' => e = .returned (.tuple #[.int .i64 0, .int .i64 10]) ∧ Below w.heap.size w w') := by
  have hsn := hk.2.2.1
  have hdl := hr.2.2.1
  have hlb : 0 ≤ l0 ∧ l0 ≤ 100000000000 := hk.2.2.2.2.2.1
  have H := Lib.hid hr
  have HC := Lib.hid hk
  clear hr hk
  have hP := Lib.hid ((hp.alloc (.cells #[.slice A n cap, .int .i64 inc, .int .i64 delay] 24)).alloc (.cells #[.int .i64 l0, .int .i64 l1, .int .i64 m0, .int .i64 m1, .int .i64 p0, .int .i64 p1, .int .i64 0, .int .i64 since, .bool true, .int .i64 fallen] 27))
  clear hp
  go_enter Try.func12, Try.ntmps12
  go_wp2_with fail
  refine (Valid_any A n cap inc delay ps l0 l1 m0 m1 p0 p1 0 since fallen true _ hn (hP.out)).mono ?_
  rintro e w1 ⟨c, rfl, hc, hb⟩
  obtain rfl : c = 0 := hc.2 ⟨H.out, HC.out⟩
  clear hc
  obtain ⟨hcell, hfr⟩ := bcell hb
  have hs := hb.size
  (try simp only [World.size_alloc] at hs)
  have hz0 : w.heap.size < w1.heap.size := by omega
  have hz1 : w.heap.size + 1 < w1.heap.size := by omega
  have hbel := (((Below.refl w.heap.size w).alloc (by go_size) _).alloc (by go_size) _).trans (hb.mono (by go_size))
  go_wp2_with fail
  have u1 : IntKind.i64.wrap (since + delay) = since + delay := IntWalk.i64_in _ (by omega)
  have u2 : IntKind.i64.wrap (since + delay + l0) = since + delay + l0 := IntWalk.i64_in _ (by omega)
  have u3 : IntKind.i64.wrap (since + delay + l0 + 1) = since + delay + l0 + 1 := IntWalk.i64_in _ (by omega)
  go_quiet (fail)
  clear u1 u2 u3
  have hbel3 := below_drewN hbel nq
  go_wp2
  go_ret2
  refine ⟨rfl, ?_⟩
  go_grown

set_option maxHeartbeats 1000000 in
theorem Fall_none_0 (A : Option Addr) (n cap : Nat) (inc delay : Int) (ps : List (Int × Int)) (l0 l1 m0 m1 p0 p1 since fallen : Int) (w : World) (hn : n ≤ 9223372036854775807) (hp : PerAt w w.heap.size A n ps) (hr : RuleOk n inc delay ps) (hk : ClkOk n l0 l1 m0 m1 p0 p1 0 since fallen) (hf : fallen < 0) (ht : 100000000 < since + delay + l0 + 1) :
    Calls Try.prog 12 #[.agg #[.slice A n cap, .int .i64 inc, .int .i64 delay], .agg #[.int .i64 l0, .int .i64 l1, .int .i64 m0, .int .i64 m1, .int .i64 p0, .int .i64 p1, .int .i64 0, .int .i64 since, .bool false, .int .i64 fallen]] w (fun e w' => e = .returned (.tuple #[.int .i64 0, .int .i64 8]) ∧ Below w.heap.size w w') := by
  have hsn := hk.2.2.1
  have hdl := hr.2.2.1
  have hlb : 0 ≤ l0 ∧ l0 ≤ 100000000000 := hk.2.2.2.2.2.1
  have H := Lib.hid hr
  have HC := Lib.hid hk
  clear hr hk
  have hP := Lib.hid ((hp.alloc (.cells #[.slice A n cap, .int .i64 inc, .int .i64 delay] 24)).alloc (.cells #[.int .i64 l0, .int .i64 l1, .int .i64 m0, .int .i64 m1, .int .i64 p0, .int .i64 p1, .int .i64 0, .int .i64 since, .bool false, .int .i64 fallen] 27))
  clear hp
  go_enter Try.func12, Try.ntmps12
  go_wp2_with fail
  refine (Valid_any A n cap inc delay ps l0 l1 m0 m1 p0 p1 0 since fallen false _ hn (hP.out)).mono ?_
  rintro e w1 ⟨c, rfl, hc, hb⟩
  obtain rfl : c = 0 := hc.2 ⟨H.out, HC.out⟩
  clear hc
  obtain ⟨hcell, hfr⟩ := bcell hb
  have hs := hb.size
  (try simp only [World.size_alloc] at hs)
  have hz0 : w.heap.size < w1.heap.size := by omega
  have hz1 : w.heap.size + 1 < w1.heap.size := by omega
  have hbel := (((Below.refl w.heap.size w).alloc (by go_size) _).alloc (by go_size) _).trans (hb.mono (by go_size))
  go_wp2_with fail
  have u1 : IntKind.i64.wrap (since + delay) = since + delay := IntWalk.i64_in _ (by omega)
  have u2 : IntKind.i64.wrap (since + delay + l0) = since + delay + l0 := IntWalk.i64_in _ (by omega)
  have u3 : IntKind.i64.wrap (since + delay + l0 + 1) = since + delay + l0 + 1 := IntWalk.i64_in _ (by omega)
  go_quiet (fail)
  clear u1 u2 u3
  have hbel3 := below_drewN hbel nq
  go_wp2
  go_ret2
  refine ⟨rfl, ?_⟩
  go_grown

set_option maxHeartbeats 1000000 in
theorem Fall_ok_0 (A : Option Addr) (n cap : Nat) (inc delay : Int) (ps : List (Int × Int)) (l0 l1 m0 m1 p0 p1 since fallen : Int) (w : World) (hn : n ≤ 9223372036854775807) (hp : PerAt w w.heap.size A n ps) (hr : RuleOk n inc delay ps) (hk : ClkOk n l0 l1 m0 m1 p0 p1 0 since fallen) (hf : fallen < 0) (ht : since + delay + l0 + 1 ≤ 100000000) :
    Calls Try.prog 12 #[.agg #[.slice A n cap, .int .i64 inc, .int .i64 delay], .agg #[.int .i64 l0, .int .i64 l1, .int .i64 m0, .int .i64 m1, .int .i64 p0, .int .i64 p1, .int .i64 0, .int .i64 since, .bool false, .int .i64 fallen]] w (fun e w' => e = .returned (.tuple #[.int .i64 (since + delay + l0 + 1), .int .i64 0]) ∧ Below w.heap.size w w') := by
  have hsn := hk.2.2.1
  have hdl := hr.2.2.1
  have hlb : 0 ≤ l0 ∧ l0 ≤ 100000000000 := hk.2.2.2.2.2.1
  have H := Lib.hid hr
  have HC := Lib.hid hk
  clear hr hk
  have hP := Lib.hid ((hp.alloc (.cells #[.slice A n cap, .int .i64 inc, .int .i64 delay] 24)).alloc (.cells #[.int .i64 l0, .int .i64 l1, .int .i64 m0, .int .i64 m1, .int .i64 p0, .int .i64 p1, .int .i64 0, .int .i64 since, .bool false, .int .i64 fallen] 27))
  clear hp
  go_enter Try.func12, Try.ntmps12
  go_wp2_with fail
  refine (Valid_any A n cap inc delay ps l0 l1 m0 m1 p0 p1 0 since fallen false _ hn (hP.out)).mono ?_
  rintro e w1 ⟨c, rfl, hc, hb⟩
  obtain rfl : c = 0 := hc.2 ⟨H.out, HC.out⟩
  clear hc
  obtain ⟨hcell, hfr⟩ := bcell hb
  have hs := hb.size
  (try simp only [World.size_alloc] at hs)
  have hz0 : w.heap.size < w1.heap.size := by omega
  have hz1 : w.heap.size + 1 < w1.heap.size := by omega
  have hbel := (((Below.refl w.heap.size w).alloc (by go_size) _).alloc (by go_size) _).trans (hb.mono (by go_size))
  go_wp2_with fail
  have u1 : IntKind.i64.wrap (since + delay) = since + delay := IntWalk.i64_in _ (by omega)
  have u2 : IntKind.i64.wrap (since + delay + l0) = since + delay + l0 := IntWalk.i64_in _ (by omega)
  have u3 : IntKind.i64.wrap (since + delay + l0 + 1) = since + delay + l0 + 1 := IntWalk.i64_in _ (by omega)
  go_quiet (fail)
  clear u1 u2 u3
  have hbel3 := below_drewN hbel nq
  go_wp2
  go_ret2
  refine ⟨rfl, ?_⟩
  go_grown

set_option maxHeartbeats 1000000 in
theorem Fall_over_1 (A : Option Addr) (n cap : Nat) (inc delay : Int) (ps : List (Int × Int)) (l0 l1 m0 m1 p0 p1 since fallen : Int) (st : Bool) (w : World) (hn : n ≤ 9223372036854775807) (hp : PerAt w w.heap.size A n ps) (hr : RuleOk n inc delay ps) (hk : ClkOk n l0 l1 m0 m1 p0 p1 1 since fallen) (hf : 0 ≤ fallen) :
    Calls Try.prog 12 #[.agg #[.slice A n cap, .int .i64 inc, .int .i64 delay], .agg #[.int .i64 l0, .int .i64 l1, .int .i64 m0, .int .i64 m1, .int .i64 p0, .int .i64 p1, .int .i64 1, .int .i64 since, .bool st, .int .i64 fallen]] w (fun e w' => e = .returned (.tuple #[.int .i64 0, .int .i64 14]) ∧ Below w.heap.size w w') := by
  have hsn := hk.2.2.1
  have hdl := hr.2.2.1
  have hlb : 0 ≤ l1 ∧ l1 ≤ 100000000000 := hk.2.2.2.2.2.2.2.2
  have H := Lib.hid hr
  have HC := Lib.hid hk
  clear hr hk
  have hP := Lib.hid ((hp.alloc (.cells #[.slice A n cap, .int .i64 inc, .int .i64 delay] 24)).alloc (.cells #[.int .i64 l0, .int .i64 l1, .int .i64 m0, .int .i64 m1, .int .i64 p0, .int .i64 p1, .int .i64 1, .int .i64 since, .bool st, .int .i64 fallen] 27))
  clear hp
  go_enter Try.func12, Try.ntmps12
  go_wp2_with fail
  refine (Valid_any A n cap inc delay ps l0 l1 m0 m1 p0 p1 1 since fallen st _ hn (hP.out)).mono ?_
  rintro e w1 ⟨c, rfl, hc, hb⟩
  obtain rfl : c = 0 := hc.2 ⟨H.out, HC.out⟩
  clear hc
  obtain ⟨hcell, hfr⟩ := bcell hb
  have hs := hb.size
  (try simp only [World.size_alloc] at hs)
  have hz0 : w.heap.size < w1.heap.size := by omega
  have hz1 : w.heap.size + 1 < w1.heap.size := by omega
  have hbel := (((Below.refl w.heap.size w).alloc (by go_size) _).alloc (by go_size) _).trans (hb.mono (by go_size))
  go_wp2_with fail
  have u1 : IntKind.i64.wrap (since + delay) = since + delay := IntWalk.i64_in _ (by omega)
  have u2 : IntKind.i64.wrap (since + delay + l1) = since + delay + l1 := IntWalk.i64_in _ (by omega)
  have u3 : IntKind.i64.wrap (since + delay + l1 + 1) = since + delay + l1 + 1 := IntWalk.i64_in _ (by omega)
  go_quiet (fail)
  clear u1 u2 u3
  have hbel3 := below_drewN hbel nq
  go_wp2
  go_ret2
  refine ⟨rfl, ?_⟩
  go_grown

set_option maxHeartbeats 1000000 in
theorem Fall_state_1 (A : Option Addr) (n cap : Nat) (inc delay : Int) (ps : List (Int × Int)) (l0 l1 m0 m1 p0 p1 since fallen : Int) (w : World) (hn : n ≤ 9223372036854775807) (hp : PerAt w w.heap.size A n ps) (hr : RuleOk n inc delay ps) (hk : ClkOk n l0 l1 m0 m1 p0 p1 1 since fallen) (hf : fallen < 0) :
    Calls Try.prog 12 #[.agg #[.slice A n cap, .int .i64 inc, .int .i64 delay], .agg #[.int .i64 l0, .int .i64 l1, .int .i64 m0, .int .i64 m1, .int .i64 p0, .int .i64 p1, .int .i64 1, .int .i64 since, .bool true, .int .i64 fallen]] w (fun e w' => e = .returned (.tuple #[.int .i64 0, .int .i64 10]) ∧ Below w.heap.size w w') := by
  have hsn := hk.2.2.1
  have hdl := hr.2.2.1
  have hlb : 0 ≤ l1 ∧ l1 ≤ 100000000000 := hk.2.2.2.2.2.2.2.2
  have H := Lib.hid hr
  have HC := Lib.hid hk
  clear hr hk
  have hP := Lib.hid ((hp.alloc (.cells #[.slice A n cap, .int .i64 inc, .int .i64 delay] 24)).alloc (.cells #[.int .i64 l0, .int .i64 l1, .int .i64 m0, .int .i64 m1, .int .i64 p0, .int .i64 p1, .int .i64 1, .int .i64 since, .bool true, .int .i64 fallen] 27))
  clear hp
  go_enter Try.func12, Try.ntmps12
  go_wp2_with fail
  refine (Valid_any A n cap inc delay ps l0 l1 m0 m1 p0 p1 1 since fallen true _ hn (hP.out)).mono ?_
  rintro e w1 ⟨c, rfl, hc, hb⟩
  obtain rfl : c = 0 := hc.2 ⟨H.out, HC.out⟩
  clear hc
  obtain ⟨hcell, hfr⟩ := bcell hb
  have hs := hb.size
  (try simp only [World.size_alloc] at hs)
  have hz0 : w.heap.size < w1.heap.size := by omega
  have hz1 : w.heap.size + 1 < w1.heap.size := by omega
  have hbel := (((Below.refl w.heap.size w).alloc (by go_size) _).alloc (by go_size) _).trans (hb.mono (by go_size))
  go_wp2_with fail
  have u1 : IntKind.i64.wrap (since + delay) = since + delay := IntWalk.i64_in _ (by omega)
  have u2 : IntKind.i64.wrap (since + delay + l1) = since + delay + l1 := IntWalk.i64_in _ (by omega)
  have u3 : IntKind.i64.wrap (since + delay + l1 + 1) = since + delay + l1 + 1 := IntWalk.i64_in _ (by omega)
  go_quiet (fail)
  clear u1 u2 u3
  have hbel3 := below_drewN hbel nq
  go_wp2
  go_ret2
  refine ⟨rfl, ?_⟩
  go_grown

set_option maxHeartbeats 1000000 in
theorem Fall_none_1 (A : Option Addr) (n cap : Nat) (inc delay : Int) (ps : List (Int × Int)) (l0 l1 m0 m1 p0 p1 since fallen : Int) (w : World) (hn : n ≤ 9223372036854775807) (hp : PerAt w w.heap.size A n ps) (hr : RuleOk n inc delay ps) (hk : ClkOk n l0 l1 m0 m1 p0 p1 1 since fallen) (hf : fallen < 0) (ht : 100000000 < since + delay + l1 + 1) :
    Calls Try.prog 12 #[.agg #[.slice A n cap, .int .i64 inc, .int .i64 delay], .agg #[.int .i64 l0, .int .i64 l1, .int .i64 m0, .int .i64 m1, .int .i64 p0, .int .i64 p1, .int .i64 1, .int .i64 since, .bool false, .int .i64 fallen]] w (fun e w' => e = .returned (.tuple #[.int .i64 0, .int .i64 8]) ∧ Below w.heap.size w w') := by
  have hsn := hk.2.2.1
  have hdl := hr.2.2.1
  have hlb : 0 ≤ l1 ∧ l1 ≤ 100000000000 := hk.2.2.2.2.2.2.2.2
  have H := Lib.hid hr
  have HC := Lib.hid hk
  clear hr hk
  have hP := Lib.hid ((hp.alloc (.cells #[.slice A n cap, .int .i64 inc, .int .i64 delay] 24)).alloc (.cells #[.int .i64 l0, .int .i64 l1, .int .i64 m0, .int .i64 m1, .int .i64 p0, .int .i64 p1, .int .i64 1, .int .i64 since, .bool false, .int .i64 fallen] 27))
  clear hp
  go_enter Try.func12, Try.ntmps12
  go_wp2_with fail
  refine (Valid_any A n cap inc delay ps l0 l1 m0 m1 p0 p1 1 since fallen false _ hn (hP.out)).mono ?_
  rintro e w1 ⟨c, rfl, hc, hb⟩
  obtain rfl : c = 0 := hc.2 ⟨H.out, HC.out⟩
  clear hc
  obtain ⟨hcell, hfr⟩ := bcell hb
  have hs := hb.size
  (try simp only [World.size_alloc] at hs)
  have hz0 : w.heap.size < w1.heap.size := by omega
  have hz1 : w.heap.size + 1 < w1.heap.size := by omega
  have hbel := (((Below.refl w.heap.size w).alloc (by go_size) _).alloc (by go_size) _).trans (hb.mono (by go_size))
  go_wp2_with fail
  have u1 : IntKind.i64.wrap (since + delay) = since + delay := IntWalk.i64_in _ (by omega)
  have u2 : IntKind.i64.wrap (since + delay + l1) = since + delay + l1 := IntWalk.i64_in _ (by omega)
  have u3 : IntKind.i64.wrap (since + delay + l1 + 1) = since + delay + l1 + 1 := IntWalk.i64_in _ (by omega)
  go_quiet (fail)
  clear u1 u2 u3
  have hbel3 := below_drewN hbel nq
  go_wp2
  go_ret2
  refine ⟨rfl, ?_⟩
  go_grown

set_option maxHeartbeats 1000000 in
theorem Fall_ok_1 (A : Option Addr) (n cap : Nat) (inc delay : Int) (ps : List (Int × Int)) (l0 l1 m0 m1 p0 p1 since fallen : Int) (w : World) (hn : n ≤ 9223372036854775807) (hp : PerAt w w.heap.size A n ps) (hr : RuleOk n inc delay ps) (hk : ClkOk n l0 l1 m0 m1 p0 p1 1 since fallen) (hf : fallen < 0) (ht : since + delay + l1 + 1 ≤ 100000000) :
    Calls Try.prog 12 #[.agg #[.slice A n cap, .int .i64 inc, .int .i64 delay], .agg #[.int .i64 l0, .int .i64 l1, .int .i64 m0, .int .i64 m1, .int .i64 p0, .int .i64 p1, .int .i64 1, .int .i64 since, .bool false, .int .i64 fallen]] w (fun e w' => e = .returned (.tuple #[.int .i64 (since + delay + l1 + 1), .int .i64 0]) ∧ Below w.heap.size w w') := by
  have hsn := hk.2.2.1
  have hdl := hr.2.2.1
  have hlb : 0 ≤ l1 ∧ l1 ≤ 100000000000 := hk.2.2.2.2.2.2.2.2
  have H := Lib.hid hr
  have HC := Lib.hid hk
  clear hr hk
  have hP := Lib.hid ((hp.alloc (.cells #[.slice A n cap, .int .i64 inc, .int .i64 delay] 24)).alloc (.cells #[.int .i64 l0, .int .i64 l1, .int .i64 m0, .int .i64 m1, .int .i64 p0, .int .i64 p1, .int .i64 1, .int .i64 since, .bool false, .int .i64 fallen] 27))
  clear hp
  go_enter Try.func12, Try.ntmps12
  go_wp2_with fail
  refine (Valid_any A n cap inc delay ps l0 l1 m0 m1 p0 p1 1 since fallen false _ hn (hP.out)).mono ?_
  rintro e w1 ⟨c, rfl, hc, hb⟩
  obtain rfl : c = 0 := hc.2 ⟨H.out, HC.out⟩
  clear hc
  obtain ⟨hcell, hfr⟩ := bcell hb
  have hs := hb.size
  (try simp only [World.size_alloc] at hs)
  have hz0 : w.heap.size < w1.heap.size := by omega
  have hz1 : w.heap.size + 1 < w1.heap.size := by omega
  have hbel := (((Below.refl w.heap.size w).alloc (by go_size) _).alloc (by go_size) _).trans (hb.mono (by go_size))
  go_wp2_with fail
  have u1 : IntKind.i64.wrap (since + delay) = since + delay := IntWalk.i64_in _ (by omega)
  have u2 : IntKind.i64.wrap (since + delay + l1) = since + delay + l1 := IntWalk.i64_in _ (by omega)
  have u3 : IntKind.i64.wrap (since + delay + l1 + 1) = since + delay + l1 + 1 := IntWalk.i64_in _ (by omega)
  go_quiet (fail)
  clear u1 u2 u3
  have hbel3 := below_drewN hbel nq
  go_wp2
  go_ret2
  refine ⟨rfl, ?_⟩
  go_grown
end Go.Proofs.Ytpcllegmdioafaa
