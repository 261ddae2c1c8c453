/- The contracts of clock.Left and clock.Fall. -/
import Derived.Test.YtpcllegmdioafaaClkLook
namespace Go.Proofs.Ytpcllegmdioafaa
open Go.ChangeShapes Go.WideShapes Go.ChangeAt Go.RowKit
set_option linter.unusedVariables false

/-- the time that a player has left; lt: the time of the player whose clock runs, lp: the player's own. -/
def leftZ (same : Bool) (fallen lt lp u : Int) : Int := if 0 ≤ fallen then lp else if lt < u then (if same = true then 0 else lp) else (if same = true then lt - u else lp)

set_option maxHeartbeats 1000000 in
theorem Left_arg (A : Option Addr) (n cap : Nat) (inc delay : Int) (ps : List (Int × Int)) (l0 l1 m0 m1 p0 p1 turn since fallen : Int) (st : Bool) (pl now : Int) (w : World) (hn : n ≤ 9223372036854775807) (hp : PerAt w w.heap.size A n ps) (e0 : witB pl 0 1 = false) :
    Calls Try.prog 8 #[.agg #[.slice A n cap, .int .i64 inc, .int .i64 delay], .agg #[.int .i64 l0, .int .i64 l1, .int .i64 m0, .int .i64 m1, .int .i64 p0, .int .i64 p1, .int .i64 turn, .int .i64 since, .bool st, .int .i64 fallen], .int .i64 pl, .int .i64 now] w (fun e w' => e = .returned (.tuple #[.int .i64 0, .int .i64 1]) ∧ Below w.heap.size w w') := by
  clear hp
  go_enter Try.func8, Try.ntmps8
  go_wp2_with (go_at_call 16; refine (within_any _ _ _ _).mono ?_; rintro e w' ⟨rfl, rfl⟩)
  go_ret2
  exact ⟨rfl, by go_grown⟩

set_option maxHeartbeats 1000000 in
theorem Left_bad (A : Option Addr) (n cap : Nat) (inc delay : Int) (ps : List (Int × Int)) (l0 l1 m0 m1 p0 p1 turn since fallen : Int) (st : Bool) (pl now : Int) (w : World) (hn : n ≤ 9223372036854775807) (hp : PerAt w w.heap.size A n ps) (e0 : witB pl 0 1 = true) (h : ¬ (RuleOk n inc delay ps ∧ ClkOk n l0 l1 m0 m1 p0 p1 turn since fallen)) :
    Calls Try.prog 8 #[.agg #[.slice A n cap, .int .i64 inc, .int .i64 delay], .agg #[.int .i64 l0, .int .i64 l1, .int .i64 m0, .int .i64 m1, .int .i64 p0, .int .i64 p1, .int .i64 turn, .int .i64 since, .bool st, .int .i64 fallen], .int .i64 pl, .int .i64 now] w (fun e w' => ∃ c : Int, c ≠ 0 ∧ e = .returned (.tuple #[.int .i64 0, .int .i64 c]) ∧ Below w.heap.size w w') := by
  have H := Lib.hid h
  clear h
  have hP := Lib.hid ((hp.alloc (.cells #[.slice A n cap, .int .i64 inc, .int .i64 delay] 24)).alloc (.cells #[.int .i64 l0, .int .i64 l1, .int .i64 m0, .int .i64 m1, .int .i64 p0, .int .i64 p1, .int .i64 turn, .int .i64 since, .bool st, .int .i64 fallen] 27))
  clear hp
  go_enter Try.func8, Try.ntmps8
  go_wp2_with (go_at_call 16; refine (within_any _ _ _ _).mono ?_; rintro e w' ⟨rfl, rfl⟩)
  refine (Look_bad A n cap inc delay ps l0 l1 m0 m1 p0 p1 turn since fallen st now _ hn hP.out H.out).mono ?_
  rintro e w1 ⟨c, hc, rfl, hb⟩
  have h1 : (c != 0) = true := by simpa using hc
  obtain ⟨hcell, hfr⟩ := bcell hb
  have hs := hb.size
  (try simp only [World.size_alloc] at hs)
  have hz0 : w.heap.size < w1.heap.size := by omega
  have hz1 : w.heap.size + 1 < w1.heap.size := by omega
  have hbel := (((Below.refl w.heap.size w).alloc (by go_size) _).alloc (by go_size) _).trans (hb.mono (by go_size))
  go_wp2
  go_ret2
  refine ⟨c, hc, rfl, ?_⟩
  go_grown

set_option maxHeartbeats 1000000 in
theorem Left_time (A : Option Addr) (n cap : Nat) (inc delay : Int) (ps : List (Int × Int)) (l0 l1 m0 m1 p0 p1 turn since fallen : Int) (st : Bool) (pl now : Int) (w : World) (hn : n ≤ 9223372036854775807) (hp : PerAt w w.heap.size A n ps) (e1 : witB pl 0 1 = true) (hr : RuleOk n inc delay ps) (hk : ClkOk n l0 l1 m0 m1 p0 p1 turn since fallen) (e0 : witB now since 100000000 = false) :
    Calls Try.prog 8 #[.agg #[.slice A n cap, .int .i64 inc, .int .i64 delay], .agg #[.int .i64 l0, .int .i64 l1, .int .i64 m0, .int .i64 m1, .int .i64 p0, .int .i64 p1, .int .i64 turn, .int .i64 since, .bool st, .int .i64 fallen], .int .i64 pl, .int .i64 now] w (fun e w' => e = .returned (.tuple #[.int .i64 0, .int .i64 11]) ∧ Below w.heap.size w w') := by
  have H := Lib.hid hr
  have HC := Lib.hid hk
  clear hr hk
  have hP := Lib.hid ((hp.alloc (.cells #[.slice A n cap, .int .i64 inc, .int .i64 delay] 24)).alloc (.cells #[.int .i64 l0, .int .i64 l1, .int .i64 m0, .int .i64 m1, .int .i64 p0, .int .i64 p1, .int .i64 turn, .int .i64 since, .bool st, .int .i64 fallen] 27))
  clear hp
  go_enter Try.func8, Try.ntmps8
  go_wp2_with (go_at_call 16; refine (within_any _ _ _ _).mono ?_; rintro e w' ⟨rfl, rfl⟩)
  refine (Look_time A n cap inc delay ps l0 l1 m0 m1 p0 p1 turn since fallen st now _ hn hP.out H.out HC.out e0).mono ?_
  rintro e w1 ⟨rfl, hb⟩
  obtain ⟨hcell, hfr⟩ := bcell hb
  have hs := hb.size
  (try simp only [World.size_alloc] at hs)
  have hz0 : w.heap.size < w1.heap.size := by omega
  have hz1 : w.heap.size + 1 < w1.heap.size := by omega
  have hbel := (((Below.refl w.heap.size w).alloc (by go_size) _).alloc (by go_size) _).trans (hb.mono (by go_size))
  go_wp2
  go_ret2
  refine ⟨rfl, ?_⟩
  go_grown

set_option maxHeartbeats 1000000 in
theorem Left_over_00 (A : Option Addr) (n cap : Nat) (inc delay : Int) (ps : List (Int × Int)) (l0 l1 m0 m1 p0 p1 since fallen : Int) (st : Bool) (now : Int) (w : World) (hn : n ≤ 9223372036854775807) (hp : PerAt w w.heap.size A n ps) (hr : RuleOk n inc delay ps) (hk : ClkOk n l0 l1 m0 m1 p0 p1 0 since fallen) (e0 : witB now since 100000000 = true) (hf : 0 ≤ fallen) :
    Calls Try.prog 8 #[.agg #[.slice A n cap, .int .i64 inc, .int .i64 delay], .agg #[.int .i64 l0, .int .i64 l1, .int .i64 m0, .int .i64 m1, .int .i64 p0, .int .i64 p1, .int .i64 0, .int .i64 since, .bool st, .int .i64 fallen], .int .i64 0, .int .i64 now] w (fun e w' => e = .returned (.tuple #[.int .i64 (leftZ true fallen l0 l0 (usedZ st delay since now)), .int .i64 0]) ∧ Below w.heap.size w w') := by
  have HZ := Lib.hid (show leftZ true fallen l0 l0 (usedZ st delay since now) = l0 by unfold leftZ; rw [if_pos hf])
  have e1 : witB 0 0 1 = true := by decide
  have H := Lib.hid hr
  have HC := Lib.hid hk
  clear hr hk
  have hP := Lib.hid ((hp.alloc (.cells #[.slice A n cap, .int .i64 inc, .int .i64 delay] 24)).alloc (.cells #[.int .i64 l0, .int .i64 l1, .int .i64 m0, .int .i64 m1, .int .i64 p0, .int .i64 p1, .int .i64 0, .int .i64 since, .bool st, .int .i64 fallen] 27))
  clear hp
  go_enter Try.func8, Try.ntmps8
  go_wp2_with (go_at_call 16; refine (within_any _ _ _ _).mono ?_; rintro e w' ⟨rfl, rfl⟩)
  refine (Look_over A n cap inc delay ps l0 l1 m0 m1 p0 p1 0 since fallen st now _ hn hP.out H.out HC.out e0 hf).mono ?_
  rintro e w1 ⟨rfl, hb⟩
  obtain ⟨hcell, hfr⟩ := bcell hb
  have hs := hb.size
  (try simp only [World.size_alloc] at hs)
  have hz0 : w.heap.size < w1.heap.size := by omega
  have hz1 : w.heap.size + 1 < w1.heap.size := by omega
  have hbel := (((Below.refl w.heap.size w).alloc (by go_size) _).alloc (by go_size) _).trans (hb.mono (by go_size))
  have hf' : decide (fallen < 0) = false := by simp; omega
  go_wp2
  go_ret2
  refine ⟨by rw [HZ.out]; rfl, ?_⟩
  go_grown

set_option maxHeartbeats 1000000 in
theorem Left_stay_00 (A : Option Addr) (n cap : Nat) (inc delay : Int) (ps : List (Int × Int)) (l0 l1 m0 m1 p0 p1 since fallen : Int) (st : Bool) (now : Int) (w : World) (hn : n ≤ 9223372036854775807) (hp : PerAt w w.heap.size A n ps) (hr : RuleOk n inc delay ps) (hk : ClkOk n l0 l1 m0 m1 p0 p1 0 since fallen) (e0 : witB now since 100000000 = true) (hf : fallen < 0) (hu : usedZ st delay since now ≤ l0) :
    Calls Try.prog 8 #[.agg #[.slice A n cap, .int .i64 inc, .int .i64 delay], .agg #[.int .i64 l0, .int .i64 l1, .int .i64 m0, .int .i64 m1, .int .i64 p0, .int .i64 p1, .int .i64 0, .int .i64 since, .bool st, .int .i64 fallen], .int .i64 0, .int .i64 now] w (fun e w' => e = .returned (.tuple #[.int .i64 (leftZ true fallen l0 l0 (usedZ st delay since now)), .int .i64 0]) ∧ Below w.heap.size w w') := by
  have HZ := Lib.hid (show leftZ true fallen l0 l0 (usedZ st delay since now) = l0 - usedZ st delay since now by unfold leftZ; rw [if_neg (by omega), if_neg (by omega)]; rfl)
  have e1 : witB 0 0 1 = true := by decide
  have hnow := witB_iff.1 e0
  have hsn := hk.2.2.1
  have hdl := hr.2.2.1
  have hub := usedZ_b st delay since now (by omega) (by omega) (by omega) (by omega)
  have hlb0 : 0 ≤ l0 ∧ l0 ≤ 100000000000 := hk.2.2.2.2.2.1
  have H := Lib.hid hr
  have HC := Lib.hid hk
  clear hr hk
  have hP := Lib.hid ((hp.alloc (.cells #[.slice A n cap, .int .i64 inc, .int .i64 delay] 24)).alloc (.cells #[.int .i64 l0, .int .i64 l1, .int .i64 m0, .int .i64 m1, .int .i64 p0, .int .i64 p1, .int .i64 0, .int .i64 since, .bool st, .int .i64 fallen] 27))
  clear hp
  go_enter Try.func8, Try.ntmps8
  go_wp2_with (go_at_call 16; refine (within_any _ _ _ _).mono ?_; rintro e w' ⟨rfl, rfl⟩)
  refine (Look_stay_0 A n cap inc delay ps l0 l1 m0 m1 p0 p1 since fallen st now _ hn hP.out H.out HC.out e0 hf hu).mono ?_
  rintro e w1 ⟨rfl, hb⟩
  obtain ⟨hcell, hfr⟩ := bcell hb
  have hs := hb.size
  (try simp only [World.size_alloc] at hs)
  have hz0 : w.heap.size < w1.heap.size := by omega
  have hz1 : w.heap.size + 1 < w1.heap.size := by omega
  have hbel := (((Below.refl w.heap.size w).alloc (by go_size) _).alloc (by go_size) _).trans (hb.mono (by go_size))
  have hf' : decide (fallen < 0) = true := by simp; omega
  go_wp2_with fail
  generalize hW : ((((((((((w1.setCell ⟨w.heap.size + 1, 0, none⟩ (.int .i64 l0)).setCell ⟨w.heap.size + 1, 1, none⟩ (.int .i64 l1)).setCell ⟨w.heap.size + 1, 2, none⟩ (.int .i64 m0)).setCell ⟨w.heap.size + 1, 3, none⟩ (.int .i64 m1)).setCell ⟨w.heap.size + 1, 4, none⟩ (.int .i64 p0)).setCell ⟨w.heap.size + 1, 5, none⟩ (.int .i64 p1)).setCell ⟨w.heap.size + 1, 6, none⟩ (.int .i64 0)).setCell ⟨w.heap.size + 1, 7, none⟩ (.int .i64 since)).setCell ⟨w.heap.size + 1, 8, none⟩ (.bool st)).setCell ⟨w.heap.size + 1, 9, none⟩ (.int .i64 fallen)) = w2
  have c0 : w2.cell? ⟨w.heap.size, 0, none⟩ = some (.slice A n cap) := by rw [← hW]; simp [hcell, go_sem]
  have c1 : w2.cell? ⟨w.heap.size, 1, none⟩ = some (.int .i64 inc) := by rw [← hW]; simp [hcell, go_sem]
  have c2 : w2.cell? ⟨w.heap.size, 2, none⟩ = some (.int .i64 delay) := by rw [← hW]; simp [hcell, go_sem]
  have c3 : w2.cell? ⟨w.heap.size + 1, 0, none⟩ = some (.int .i64 l0) := by rw [← hW]; simp [hcell, go_sem]
  have c4 : w2.cell? ⟨w.heap.size + 1, 1, none⟩ = some (.int .i64 l1) := by rw [← hW]; simp [hcell, go_sem]
  have c5 : w2.cell? ⟨w.heap.size + 1, 2, none⟩ = some (.int .i64 m0) := by rw [← hW]; simp [hcell, go_sem]
  have c6 : w2.cell? ⟨w.heap.size + 1, 3, none⟩ = some (.int .i64 m1) := by rw [← hW]; simp [hcell, go_sem]
  have c7 : w2.cell? ⟨w.heap.size + 1, 4, none⟩ = some (.int .i64 p0) := by rw [← hW]; simp [hcell, go_sem]
  have c8 : w2.cell? ⟨w.heap.size + 1, 5, none⟩ = some (.int .i64 p1) := by rw [← hW]; simp [hcell, go_sem]
  have c9 : w2.cell? ⟨w.heap.size + 1, 6, none⟩ = some (.int .i64 0) := by rw [← hW]; simp [hcell, go_sem]
  have c10 : w2.cell? ⟨w.heap.size + 1, 7, none⟩ = some (.int .i64 since) := by rw [← hW]; simp [hcell, go_sem]
  have c11 : w2.cell? ⟨w.heap.size + 1, 8, none⟩ = some (.bool st) := by rw [← hW]; simp [hcell, go_sem]
  have c12 : w2.cell? ⟨w.heap.size + 1, 9, none⟩ = some (.int .i64 fallen) := by rw [← hW]; simp [hcell, go_sem]
  have hz0' : w.heap.size < w2.heap.size := by rw [← hW]; simpa using hz0
  have hz1' : w.heap.size + 1 < w2.heap.size := by rw [← hW]; simpa using hz1
  have hbel2 : Below w.heap.size w w2 := by rw [← hW]; go_grown
  clear hW hcell hfr hbel hs hz0 hz1 hb
  go_region_held3 (fun w' => w'.cell? ⟨w.heap.size, 0, none⟩ = some (.slice A n cap) ∧ w'.cell? ⟨w.heap.size, 1, none⟩ = some (.int .i64 inc) ∧ w'.cell? ⟨w.heap.size, 2, none⟩ = some (.int .i64 delay) ∧ w'.cell? ⟨w.heap.size + 1, 0, none⟩ = some (.int .i64 l0) ∧ w'.cell? ⟨w.heap.size + 1, 1, none⟩ = some (.int .i64 l1) ∧ w'.cell? ⟨w.heap.size + 1, 2, none⟩ = some (.int .i64 m0) ∧ w'.cell? ⟨w.heap.size + 1, 3, none⟩ = some (.int .i64 m1) ∧ w'.cell? ⟨w.heap.size + 1, 4, none⟩ = some (.int .i64 p0) ∧ w'.cell? ⟨w.heap.size + 1, 5, none⟩ = some (.int .i64 p1) ∧ w'.cell? ⟨w.heap.size + 1, 6, none⟩ = some (.int .i64 0) ∧ w'.cell? ⟨w.heap.size + 1, 7, none⟩ = some (.int .i64 since) ∧ w'.cell? ⟨w.heap.size + 1, 8, none⟩ = some (.bool st) ∧ w'.cell? ⟨w.heap.size + 1, 9, none⟩ = some (.int .i64 fallen)) (go_keep) (first | (go_at_call 17; refine (used_any A n cap inc delay l0 l1 m0 m1 p0 p1 0 since fallen st now _ (by omega) (by omega) (by omega) (by omega) (by omega) (by omega)).mono ?_; rintro e w' ⟨rfl, rfl⟩))
  clear c0 c1 c2 c3 c4 c5 c6 c7 c8 c9 c10 c11 c12
  go_wp2
  go_ret2
  refine ⟨by rw [HZ.out]; exact congrArg (fun z => Ending.returned (.tuple #[.int .i64 z, .int .i64 0])) (IntWalk.i64_in _ (by omega)), ?_⟩
  go_grown

set_option maxHeartbeats 1000000 in
theorem Left_fall_00 (A : Option Addr) (n cap : Nat) (inc delay : Int) (ps : List (Int × Int)) (l0 l1 m0 m1 p0 p1 since fallen : Int) (st : Bool) (now : Int) (w : World) (hn : n ≤ 9223372036854775807) (hp : PerAt w w.heap.size A n ps) (hr : RuleOk n inc delay ps) (hk : ClkOk n l0 l1 m0 m1 p0 p1 0 since fallen) (e0 : witB now since 100000000 = true) (hf : fallen < 0) (hu : l0 < usedZ st delay since now) :
    Calls Try.prog 8 #[.agg #[.slice A n cap, .int .i64 inc, .int .i64 delay], .agg #[.int .i64 l0, .int .i64 l1, .int .i64 m0, .int .i64 m1, .int .i64 p0, .int .i64 p1, .int .i64 0, .int .i64 since, .bool st, .int .i64 fallen], .int .i64 0, .int .i64 now] w (fun e w' => e = .returned (.tuple #[.int .i64 (leftZ true fallen l0 l0 (usedZ st delay since now)), .int .i64 0]) ∧ Below w.heap.size w w') := by
  have HZ := Lib.hid (show leftZ true fallen l0 l0 (usedZ st delay since now) = 0 by unfold leftZ; rw [if_neg (by omega), if_pos hu]; rfl)
  have e1 : witB 0 0 1 = true := by decide
  have H := Lib.hid hr
  have HC := Lib.hid hk
  clear hr hk
  have hP := Lib.hid ((hp.alloc (.cells #[.slice A n cap, .int .i64 inc, .int .i64 delay] 24)).alloc (.cells #[.int .i64 l0, .int .i64 l1, .int .i64 m0, .int .i64 m1, .int .i64 p0, .int .i64 p1, .int .i64 0, .int .i64 since, .bool st, .int .i64 fallen] 27))
  clear hp
  go_enter Try.func8, Try.ntmps8
  go_wp2_with (go_at_call 16; refine (within_any _ _ _ _).mono ?_; rintro e w' ⟨rfl, rfl⟩)
  refine (Look_fall_0 A n cap inc delay ps l0 l1 m0 m1 p0 p1 since fallen st now _ hn hP.out H.out HC.out e0 hf hu).mono ?_
  rintro e w1 ⟨rfl, hb⟩
  obtain ⟨hcell, hfr⟩ := bcell hb
  have hs := hb.size
  (try simp only [World.size_alloc] at hs)
  have hz0 : w.heap.size < w1.heap.size := by omega
  have hz1 : w.heap.size + 1 < w1.heap.size := by omega
  have hbel := (((Below.refl w.heap.size w).alloc (by go_size) _).alloc (by go_size) _).trans (hb.mono (by go_size))
  go_wp2
  go_ret2
  refine ⟨by rw [HZ.out]; rfl, ?_⟩
  go_grown

set_option maxHeartbeats 1000000 in
theorem Left_over_01 (A : Option Addr) (n cap : Nat) (inc delay : Int) (ps : List (Int × Int)) (l0 l1 m0 m1 p0 p1 since fallen : Int) (st : Bool) (now : Int) (w : World) (hn : n ≤ 9223372036854775807) (hp : PerAt w w.heap.size A n ps) (hr : RuleOk n inc delay ps) (hk : ClkOk n l0 l1 m0 m1 p0 p1 0 since fallen) (e0 : witB now since 100000000 = true) (hf : 0 ≤ fallen) :
    Calls Try.prog 8 #[.agg #[.slice A n cap, .int .i64 inc, .int .i64 delay], .agg #[.int .i64 l0, .int .i64 l1, .int .i64 m0, .int .i64 m1, .int .i64 p0, .int .i64 p1, .int .i64 0, .int .i64 since, .bool st, .int .i64 fallen], .int .i64 1, .int .i64 now] w (fun e w' => e = .returned (.tuple #[.int .i64 (leftZ false fallen l0 l1 (usedZ st delay since now)), .int .i64 0]) ∧ Below w.heap.size w w') := by
  have HZ := Lib.hid (show leftZ false fallen l0 l1 (usedZ st delay since now) = l1 by unfold leftZ; rw [if_pos hf])
  have e1 : witB 1 0 1 = true := by decide
  have H := Lib.hid hr
  have HC := Lib.hid hk
  clear hr hk
  have hP := Lib.hid ((hp.alloc (.cells #[.slice A n cap, .int .i64 inc, .int .i64 delay] 24)).alloc (.cells #[.int .i64 l0, .int .i64 l1, .int .i64 m0, .int .i64 m1, .int .i64 p0, .int .i64 p1, .int .i64 0, .int .i64 since, .bool st, .int .i64 fallen] 27))
  clear hp
  go_enter Try.func8, Try.ntmps8
  go_wp2_with (go_at_call 16; refine (within_any _ _ _ _).mono ?_; rintro e w' ⟨rfl, rfl⟩)
  refine (Look_over A n cap inc delay ps l0 l1 m0 m1 p0 p1 0 since fallen st now _ hn hP.out H.out HC.out e0 hf).mono ?_
  rintro e w1 ⟨rfl, hb⟩
  obtain ⟨hcell, hfr⟩ := bcell hb
  have hs := hb.size
  (try simp only [World.size_alloc] at hs)
  have hz0 : w.heap.size < w1.heap.size := by omega
  have hz1 : w.heap.size + 1 < w1.heap.size := by omega
  have hbel := (((Below.refl w.heap.size w).alloc (by go_size) _).alloc (by go_size) _).trans (hb.mono (by go_size))
  have hf' : decide (fallen < 0) = false := by simp; omega
  go_wp2
  go_ret2
  refine ⟨by rw [HZ.out]; rfl, ?_⟩
  go_grown

set_option maxHeartbeats 1000000 in
theorem Left_stay_01 (A : Option Addr) (n cap : Nat) (inc delay : Int) (ps : List (Int × Int)) (l0 l1 m0 m1 p0 p1 since fallen : Int) (st : Bool) (now : Int) (w : World) (hn : n ≤ 9223372036854775807) (hp : PerAt w w.heap.size A n ps) (hr : RuleOk n inc delay ps) (hk : ClkOk n l0 l1 m0 m1 p0 p1 0 since fallen) (e0 : witB now since 100000000 = true) (hf : fallen < 0) (hu : usedZ st delay since now ≤ l0) :
    Calls Try.prog 8 #[.agg #[.slice A n cap, .int .i64 inc, .int .i64 delay], .agg #[.int .i64 l0, .int .i64 l1, .int .i64 m0, .int .i64 m1, .int .i64 p0, .int .i64 p1, .int .i64 0, .int .i64 since, .bool st, .int .i64 fallen], .int .i64 1, .int .i64 now] w (fun e w' => e = .returned (.tuple #[.int .i64 (leftZ false fallen l0 l1 (usedZ st delay since now)), .int .i64 0]) ∧ Below w.heap.size w w') := by
  have HZ := Lib.hid (show leftZ false fallen l0 l1 (usedZ st delay since now) = l1 by unfold leftZ; rw [if_neg (by omega), if_neg (by omega)]; rfl)
  have e1 : witB 1 0 1 = true := by decide
  have hnow := witB_iff.1 e0
  have hsn := hk.2.2.1
  have hdl := hr.2.2.1
  have hub := usedZ_b st delay since now (by omega) (by omega) (by omega) (by omega)
  have hlb0 : 0 ≤ l0 ∧ l0 ≤ 100000000000 := hk.2.2.2.2.2.1
  have H := Lib.hid hr
  have HC := Lib.hid hk
  clear hr hk
  have hP := Lib.hid ((hp.alloc (.cells #[.slice A n cap, .int .i64 inc, .int .i64 delay] 24)).alloc (.cells #[.int .i64 l0, .int .i64 l1, .int .i64 m0, .int .i64 m1, .int .i64 p0, .int .i64 p1, .int .i64 0, .int .i64 since, .bool st, .int .i64 fallen] 27))
  clear hp
  go_enter Try.func8, Try.ntmps8
  go_wp2_with (go_at_call 16; refine (within_any _ _ _ _).mono ?_; rintro e w' ⟨rfl, rfl⟩)
  refine (Look_stay_0 A n cap inc delay ps l0 l1 m0 m1 p0 p1 since fallen st now _ hn hP.out H.out HC.out e0 hf hu).mono ?_
  rintro e w1 ⟨rfl, hb⟩
  obtain ⟨hcell, hfr⟩ := bcell hb
  have hs := hb.size
  (try simp only [World.size_alloc] at hs)
  have hz0 : w.heap.size < w1.heap.size := by omega
  have hz1 : w.heap.size + 1 < w1.heap.size := by omega
  have hbel := (((Below.refl w.heap.size w).alloc (by go_size) _).alloc (by go_size) _).trans (hb.mono (by go_size))
  have hf' : decide (fallen < 0) = true := by simp; omega
  go_wp2
  go_ret2
  refine ⟨by rw [HZ.out]; rfl, ?_⟩
  go_grown

set_option maxHeartbeats 1000000 in
theorem Left_fall_01 (A : Option Addr) (n cap : Nat) (inc delay : Int) (ps : List (Int × Int)) (l0 l1 m0 m1 p0 p1 since fallen : Int) (st : Bool) (now : Int) (w : World) (hn : n ≤ 9223372036854775807) (hp : PerAt w w.heap.size A n ps) (hr : RuleOk n inc delay ps) (hk : ClkOk n l0 l1 m0 m1 p0 p1 0 since fallen) (e0 : witB now since 100000000 = true) (hf : fallen < 0) (hu : l0 < usedZ st delay since now) :
    Calls Try.prog 8 #[.agg #[.slice A n cap, .int .i64 inc, .int .i64 delay], .agg #[.int .i64 l0, .int .i64 l1, .int .i64 m0, .int .i64 m1, .int .i64 p0, .int .i64 p1, .int .i64 0, .int .i64 since, .bool st, .int .i64 fallen], .int .i64 1, .int .i64 now] w (fun e w' => e = .returned (.tuple #[.int .i64 (leftZ false fallen l0 l1 (usedZ st delay since now)), .int .i64 0]) ∧ Below w.heap.size w w') := by
  have HZ := Lib.hid (show leftZ false fallen l0 l1 (usedZ st delay since now) = l1 by unfold leftZ; rw [if_neg (by omega), if_pos hu]; rfl)
  have e1 : witB 1 0 1 = true := by decide
  have H := Lib.hid hr
  have HC := Lib.hid hk
  clear hr hk
  have hP := Lib.hid ((hp.alloc (.cells #[.slice A n cap, .int .i64 inc, .int .i64 delay] 24)).alloc (.cells #[.int .i64 l0, .int .i64 l1, .int .i64 m0, .int .i64 m1, .int .i64 p0, .int .i64 p1, .int .i64 0, .int .i64 since, .bool st, .int .i64 fallen] 27))
  clear hp
  go_enter Try.func8, Try.ntmps8
  go_wp2_with (go_at_call 16; refine (within_any _ _ _ _).mono ?_; rintro e w' ⟨rfl, rfl⟩)
  refine (Look_fall_0 A n cap inc delay ps l0 l1 m0 m1 p0 p1 since fallen st now _ hn hP.out H.out HC.out e0 hf hu).mono ?_
  rintro e w1 ⟨rfl, hb⟩
  obtain ⟨hcell, hfr⟩ := bcell hb
  have hs := hb.size
  (try simp only [World.size_alloc] at hs)
  have hz0 : w.heap.size < w1.heap.size := by omega
  have hz1 : w.heap.size + 1 < w1.heap.size := by omega
  have hbel := (((Below.refl w.heap.size w).alloc (by go_size) _).alloc (by go_size) _).trans (hb.mono (by go_size))
  go_wp2
  go_ret2
  refine ⟨by rw [HZ.out]; rfl, ?_⟩
  go_grown

set_option maxHeartbeats 1000000 in
theorem Left_over_10 (A : Option Addr) (n cap : Nat) (inc delay : Int) (ps : List (Int × Int)) (l0 l1 m0 m1 p0 p1 since fallen : Int) (st : Bool) (now : Int) (w : World) (hn : n ≤ 9223372036854775807) (hp : PerAt w w.heap.size A n ps) (hr : RuleOk n inc delay ps) (hk : ClkOk n l0 l1 m0 m1 p0 p1 1 since fallen) (e0 : witB now since 100000000 = true) (hf : 0 ≤ fallen) :
    Calls Try.prog 8 #[.agg #[.slice A n cap, .int .i64 inc, .int .i64 delay], .agg #[.int .i64 l0, .int .i64 l1, .int .i64 m0, .int .i64 m1, .int .i64 p0, .int .i64 p1, .int .i64 1, .int .i64 since, .bool st, .int .i64 fallen], .int .i64 0, .int .i64 now] w (fun e w' => e = .returned (.tuple #[.int .i64 (leftZ false fallen l1 l0 (usedZ st delay since now)), .int .i64 0]) ∧ Below w.heap.size w w') := by
  have HZ := Lib.hid (show leftZ false fallen l1 l0 (usedZ st delay since now) = l0 by unfold leftZ; rw [if_pos hf])
  have e1 : witB 0 0 1 = true := by decide
  have H := Lib.hid hr
  have HC := Lib.hid hk
  clear hr hk
  have hP := Lib.hid ((hp.alloc (.cells #[.slice A n cap, .int .i64 inc, .int .i64 delay] 24)).alloc (.cells #[.int .i64 l0, .int .i64 l1, .int .i64 m0, .int .i64 m1, .int .i64 p0, .int .i64 p1, .int .i64 1, .int .i64 since, .bool st, .int .i64 fallen] 27))
  clear hp
  go_enter Try.func8, Try.ntmps8
  go_wp2_with (go_at_call 16; refine (within_any _ _ _ _).mono ?_; rintro e w' ⟨rfl, rfl⟩)
  refine (Look_over A n cap inc delay ps l0 l1 m0 m1 p0 p1 1 since fallen st now _ hn hP.out H.out HC.out e0 hf).mono ?_
  rintro e w1 ⟨rfl, hb⟩
  obtain ⟨hcell, hfr⟩ := bcell hb
  have hs := hb.size
  (try simp only [World.size_alloc] at hs)
  have hz0 : w.heap.size < w1.heap.size := by omega
  have hz1 : w.heap.size + 1 < w1.heap.size := by omega
  have hbel := (((Below.refl w.heap.size w).alloc (by go_size) _).alloc (by go_size) _).trans (hb.mono (by go_size))
  have hf' : decide (fallen < 0) = false := by simp; omega
  go_wp2
  go_ret2
  refine ⟨by rw [HZ.out]; rfl, ?_⟩
  go_grown

set_option maxHeartbeats 1000000 in
theorem Left_stay_10 (A : Option Addr) (n cap : Nat) (inc delay : Int) (ps : List (Int × Int)) (l0 l1 m0 m1 p0 p1 since fallen : Int) (st : Bool) (now : Int) (w : World) (hn : n ≤ 9223372036854775807) (hp : PerAt w w.heap.size A n ps) (hr : RuleOk n inc delay ps) (hk : ClkOk n l0 l1 m0 m1 p0 p1 1 since fallen) (e0 : witB now since 100000000 = true) (hf : fallen < 0) (hu : usedZ st delay since now ≤ l1) :
    Calls Try.prog 8 #[.agg #[.slice A n cap, .int .i64 inc, .int .i64 delay], .agg #[.int .i64 l0, .int .i64 l1, .int .i64 m0, .int .i64 m1, .int .i64 p0, .int .i64 p1, .int .i64 1, .int .i64 since, .bool st, .int .i64 fallen], .int .i64 0, .int .i64 now] w (fun e w' => e = .returned (.tuple #[.int .i64 (leftZ false fallen l1 l0 (usedZ st delay since now)), .int .i64 0]) ∧ Below w.heap.size w w') := by
  have HZ := Lib.hid (show leftZ false fallen l1 l0 (usedZ st delay since now) = l0 by unfold leftZ; rw [if_neg (by omega), if_neg (by omega)]; rfl)
  have e1 : witB 0 0 1 = true := by decide
  have hnow := witB_iff.1 e0
  have hsn := hk.2.2.1
  have hdl := hr.2.2.1
  have hub := usedZ_b st delay since now (by omega) (by omega) (by omega) (by omega)
  have hlb1 : 0 ≤ l1 ∧ l1 ≤ 100000000000 := hk.2.2.2.2.2.2.2.2
  have H := Lib.hid hr
  have HC := Lib.hid hk
  clear hr hk
  have hP := Lib.hid ((hp.alloc (.cells #[.slice A n cap, .int .i64 inc, .int .i64 delay] 24)).alloc (.cells #[.int .i64 l0, .int .i64 l1, .int .i64 m0, .int .i64 m1, .int .i64 p0, .int .i64 p1, .int .i64 1, .int .i64 since, .bool st, .int .i64 fallen] 27))
  clear hp
  go_enter Try.func8, Try.ntmps8
  go_wp2_with (go_at_call 16; refine (within_any _ _ _ _).mono ?_; rintro e w' ⟨rfl, rfl⟩)
  refine (Look_stay_1 A n cap inc delay ps l0 l1 m0 m1 p0 p1 since fallen st now _ hn hP.out H.out HC.out e0 hf hu).mono ?_
  rintro e w1 ⟨rfl, hb⟩
  obtain ⟨hcell, hfr⟩ := bcell hb
  have hs := hb.size
  (try simp only [World.size_alloc] at hs)
  have hz0 : w.heap.size < w1.heap.size := by omega
  have hz1 : w.heap.size + 1 < w1.heap.size := by omega
  have hbel := (((Below.refl w.heap.size w).alloc (by go_size) _).alloc (by go_size) _).trans (hb.mono (by go_size))
  have hf' : decide (fallen < 0) = true := by simp; omega
  go_wp2
  go_ret2
  refine ⟨by rw [HZ.out]; rfl, ?_⟩
  go_grown

set_option maxHeartbeats 1000000 in
theorem Left_fall_10 (A : Option Addr) (n cap : Nat) (inc delay : Int) (ps : List (Int × Int)) (l0 l1 m0 m1 p0 p1 since fallen : Int) (st : Bool) (now : Int) (w : World) (hn : n ≤ 9223372036854775807) (hp : PerAt w w.heap.size A n ps) (hr : RuleOk n inc delay ps) (hk : ClkOk n l0 l1 m0 m1 p0 p1 1 since fallen) (e0 : witB now since 100000000 = true) (hf : fallen < 0) (hu : l1 < usedZ st delay since now) :
    Calls Try.prog 8 #[.agg #[.slice A n cap, .int .i64 inc, .int .i64 delay], .agg #[.int .i64 l0, .int .i64 l1, .int .i64 m0, .int .i64 m1, .int .i64 p0, .int .i64 p1, .int .i64 1, .int .i64 since, .bool st, .int .i64 fallen], .int .i64 0, .int .i64 now] w (fun e w' => e = .returned (.tuple #[.int .i64 (leftZ false fallen l1 l0 (usedZ st delay since now)), .int .i64 0]) ∧ Below w.heap.size w w') := by
  have HZ := Lib.hid (show leftZ false fallen l1 l0 (usedZ st delay since now) = l0 by unfold leftZ; rw [if_neg (by omega), if_pos hu]; rfl)
  have e1 : witB 0 0 1 = true := by decide
  have H := Lib.hid hr
  have HC := Lib.hid hk
  clear hr hk
  have hP := Lib.hid ((hp.alloc (.cells #[.slice A n cap, .int .i64 inc, .int .i64 delay] 24)).alloc (.cells #[.int .i64 l0, .int .i64 l1, .int .i64 m0, .int .i64 m1, .int .i64 p0, .int .i64 p1, .int .i64 1, .int .i64 since, .bool st, .int .i64 fallen] 27))
  clear hp
  go_enter Try.func8, Try.ntmps8
  go_wp2_with (go_at_call 16; refine (within_any _ _ _ _).mono ?_; rintro e w' ⟨rfl, rfl⟩)
  refine (Look_fall_1 A n cap inc delay ps l0 l1 m0 m1 p0 p1 since fallen st now _ hn hP.out H.out HC.out e0 hf hu).mono ?_
  rintro e w1 ⟨rfl, hb⟩
  obtain ⟨hcell, hfr⟩ := bcell hb
  have hs := hb.size
  (try simp only [World.size_alloc] at hs)
  have hz0 : w.heap.size < w1.heap.size := by omega
  have hz1 : w.heap.size + 1 < w1.heap.size := by omega
  have hbel := (((Below.refl w.heap.size w).alloc (by go_size) _).alloc (by go_size) _).trans (hb.mono (by go_size))
  go_wp2
  go_ret2
  refine ⟨by rw [HZ.out]; rfl, ?_⟩
  go_grown

set_option maxHeartbeats 1000000 in
theorem Left_over_11 (A : Option Addr) (n cap : Nat) (inc delay : Int) (ps : List (Int × Int)) (l0 l1 m0 m1 p0 p1 since fallen : Int) (st : Bool) (now : Int) (w : World) (hn : n ≤ 9223372036854775807) (hp : PerAt w w.heap.size A n ps) (hr : RuleOk n inc delay ps) (hk : ClkOk n l0 l1 m0 m1 p0 p1 1 since fallen) (e0 : witB now since 100000000 = true) (hf : 0 ≤ fallen) :
    Calls Try.prog 8 #[.agg #[.slice A n cap, .int .i64 inc, .int .i64 delay], .agg #[.int .i64 l0, .int .i64 l1, .int .i64 m0, .int .i64 m1, .int .i64 p0, .int .i64 p1, .int .i64 1, .int .i64 since, .bool st, .int .i64 fallen], .int .i64 1, .int .i64 now] w (fun e w' => e = .returned (.tuple #[.int .i64 (leftZ true fallen l1 l1 (usedZ st delay since now)), .int .i64 0]) ∧ Below w.heap.size w w') := by
  have HZ := Lib.hid (show leftZ true fallen l1 l1 (usedZ st delay since now) = l1 by unfold leftZ; rw [if_pos hf])
  have e1 : witB 1 0 1 = true := by decide
  have H := Lib.hid hr
  have HC := Lib.hid hk
  clear hr hk
  have hP := Lib.hid ((hp.alloc (.cells #[.slice A n cap, .int .i64 inc, .int .i64 delay] 24)).alloc (.cells #[.int .i64 l0, .int .i64 l1, .int .i64 m0, .int .i64 m1, .int .i64 p0, .int .i64 p1, .int .i64 1, .int .i64 since, .bool st, .int .i64 fallen] 27))
  clear hp
  go_enter Try.func8, Try.ntmps8
  go_wp2_with (go_at_call 16; refine (within_any _ _ _ _).mono ?_; rintro e w' ⟨rfl, rfl⟩)
  refine (Look_over A n cap inc delay ps l0 l1 m0 m1 p0 p1 1 since fallen st now _ hn hP.out H.out HC.out e0 hf).mono ?_
  rintro e w1 ⟨rfl, hb⟩
  obtain ⟨hcell, hfr⟩ := bcell hb
  have hs := hb.size
  (try simp only [World.size_alloc] at hs)
  have hz0 : w.heap.size < w1.heap.size := by omega
  have hz1 : w.heap.size + 1 < w1.heap.size := by omega
  have hbel := (((Below.refl w.heap.size w).alloc (by go_size) _).alloc (by go_size) _).trans (hb.mono (by go_size))
  have hf' : decide (fallen < 0) = false := by simp; omega
  go_wp2
  go_ret2
  refine ⟨by rw [HZ.out]; rfl, ?_⟩
  go_grown

set_option maxHeartbeats 1000000 in
theorem Left_stay_11 (A : Option Addr) (n cap : Nat) (inc delay : Int) (ps : List (Int × Int)) (l0 l1 m0 m1 p0 p1 since fallen : Int) (st : Bool) (now : Int) (w : World) (hn : n ≤ 9223372036854775807) (hp : PerAt w w.heap.size A n ps) (hr : RuleOk n inc delay ps) (hk : ClkOk n l0 l1 m0 m1 p0 p1 1 since fallen) (e0 : witB now since 100000000 = true) (hf : fallen < 0) (hu : usedZ st delay since now ≤ l1) :
    Calls Try.prog 8 #[.agg #[.slice A n cap, .int .i64 inc, .int .i64 delay], .agg #[.int .i64 l0, .int .i64 l1, .int .i64 m0, .int .i64 m1, .int .i64 p0, .int .i64 p1, .int .i64 1, .int .i64 since, .bool st, .int .i64 fallen], .int .i64 1, .int .i64 now] w (fun e w' => e = .returned (.tuple #[.int .i64 (leftZ true fallen l1 l1 (usedZ st delay since now)), .int .i64 0]) ∧ Below w.heap.size w w') := by
  have HZ := Lib.hid (show leftZ true fallen l1 l1 (usedZ st delay since now) = l1 - usedZ st delay since now by unfold leftZ; rw [if_neg (by omega), if_neg (by omega)]; rfl)
  have e1 : witB 1 0 1 = true := by decide
  have hnow := witB_iff.1 e0
  have hsn := hk.2.2.1
  have hdl := hr.2.2.1
  have hub := usedZ_b st delay since now (by omega) (by omega) (by omega) (by omega)
  have hlb1 : 0 ≤ l1 ∧ l1 ≤ 100000000000 := hk.2.2.2.2.2.2.2.2
  have H := Lib.hid hr
  have HC := Lib.hid hk
  clear hr hk
  have hP := Lib.hid ((hp.alloc (.cells #[.slice A n cap, .int .i64 inc, .int .i64 delay] 24)).alloc (.cells #[.int .i64 l0, .int .i64 l1, .int .i64 m0, .int .i64 m1, .int .i64 p0, .int .i64 p1, .int .i64 1, .int .i64 since, .bool st, .int .i64 fallen] 27))
  clear hp
  go_enter Try.func8, Try.ntmps8
  go_wp2_with (go_at_call 16; refine (within_any _ _ _ _).mono ?_; rintro e w' ⟨rfl, rfl⟩)
  refine (Look_stay_1 A n cap inc delay ps l0 l1 m0 m1 p0 p1 since fallen st now _ hn hP.out H.out HC.out e0 hf hu).mono ?_
  rintro e w1 ⟨rfl, hb⟩
  obtain ⟨hcell, hfr⟩ := bcell hb
  have hs := hb.size
  (try simp only [World.size_alloc] at hs)
  have hz0 : w.heap.size < w1.heap.size := by omega
  have hz1 : w.heap.size + 1 < w1.heap.size := by omega
  have hbel := (((Below.refl w.heap.size w).alloc (by go_size) _).alloc (by go_size) _).trans (hb.mono (by go_size))
  have hf' : decide (fallen < 0) = true := by simp; omega
  go_wp2_with fail
  generalize hW : ((((((((((w1.setCell ⟨w.heap.size + 1, 0, none⟩ (.int .i64 l0)).setCell ⟨w.heap.size + 1, 1, none⟩ (.int .i64 l1)).setCell ⟨w.heap.size + 1, 2, none⟩ (.int .i64 m0)).setCell ⟨w.heap.size + 1, 3, none⟩ (.int .i64 m1)).setCell ⟨w.heap.size + 1, 4, none⟩ (.int .i64 p0)).setCell ⟨w.heap.size + 1, 5, none⟩ (.int .i64 p1)).setCell ⟨w.heap.size + 1, 6, none⟩ (.int .i64 1)).setCell ⟨w.heap.size + 1, 7, none⟩ (.int .i64 since)).setCell ⟨w.heap.size + 1, 8, none⟩ (.bool st)).setCell ⟨w.heap.size + 1, 9, none⟩ (.int .i64 fallen)) = w2
  have c0 : w2.cell? ⟨w.heap.size, 0, none⟩ = some (.slice A n cap) := by rw [← hW]; simp [hcell, go_sem]
  have c1 : w2.cell? ⟨w.heap.size, 1, none⟩ = some (.int .i64 inc) := by rw [← hW]; simp [hcell, go_sem]
  have c2 : w2.cell? ⟨w.heap.size, 2, none⟩ = some (.int .i64 delay) := by rw [← hW]; simp [hcell, go_sem]
  have c3 : w2.cell? ⟨w.heap.size + 1, 0, none⟩ = some (.int .i64 l0) := by rw [← hW]; simp [hcell, go_sem]
  have c4 : w2.cell? ⟨w.heap.size + 1, 1, none⟩ = some (.int .i64 l1) := by rw [← hW]; simp [hcell, go_sem]
  have c5 : w2.cell? ⟨w.heap.size + 1, 2, none⟩ = some (.int .i64 m0) := by rw [← hW]; simp [hcell, go_sem]
  have c6 : w2.cell? ⟨w.heap.size + 1, 3, none⟩ = some (.int .i64 m1) := by rw [← hW]; simp [hcell, go_sem]
  have c7 : w2.cell? ⟨w.heap.size + 1, 4, none⟩ = some (.int .i64 p0) := by rw [← hW]; simp [hcell, go_sem]
  have c8 : w2.cell? ⟨w.heap.size + 1, 5, none⟩ = some (.int .i64 p1) := by rw [← hW]; simp [hcell, go_sem]
  have c9 : w2.cell? ⟨w.heap.size + 1, 6, none⟩ = some (.int .i64 1) := by rw [← hW]; simp [hcell, go_sem]
  have c10 : w2.cell? ⟨w.heap.size + 1, 7, none⟩ = some (.int .i64 since) := by rw [← hW]; simp [hcell, go_sem]
  have c11 : w2.cell? ⟨w.heap.size + 1, 8, none⟩ = some (.bool st) := by rw [← hW]; simp [hcell, go_sem]
  have c12 : w2.cell? ⟨w.heap.size + 1, 9, none⟩ = some (.int .i64 fallen) := by rw [← hW]; simp [hcell, go_sem]
  have hz0' : w.heap.size < w2.heap.size := by rw [← hW]; simpa using hz0
  have hz1' : w.heap.size + 1 < w2.heap.size := by rw [← hW]; simpa using hz1
  have hbel2 : Below w.heap.size w w2 := by rw [← hW]; go_grown
  clear hW hcell hfr hbel hs hz0 hz1 hb
  go_region_held3 (fun w' => w'.cell? ⟨w.heap.size, 0, none⟩ = some (.slice A n cap) ∧ w'.cell? ⟨w.heap.size, 1, none⟩ = some (.int .i64 inc) ∧ w'.cell? ⟨w.heap.size, 2, none⟩ = some (.int .i64 delay) ∧ w'.cell? ⟨w.heap.size + 1, 0, none⟩ = some (.int .i64 l0) ∧ w'.cell? ⟨w.heap.size + 1, 1, none⟩ = some (.int .i64 l1) ∧ w'.cell? ⟨w.heap.size + 1, 2, none⟩ = some (.int .i64 m0) ∧ w'.cell? ⟨w.heap.size + 1, 3, none⟩ = some (.int .i64 m1) ∧ w'.cell? ⟨w.heap.size + 1, 4, none⟩ = some (.int .i64 p0) ∧ w'.cell? ⟨w.heap.size + 1, 5, none⟩ = some (.int .i64 p1) ∧ w'.cell? ⟨w.heap.size + 1, 6, none⟩ = some (.int .i64 1) ∧ w'.cell? ⟨w.heap.size + 1, 7, none⟩ = some (.int .i64 since) ∧ w'.cell? ⟨w.heap.size + 1, 8, none⟩ = some (.bool st) ∧ w'.cell? ⟨w.heap.size + 1, 9, none⟩ = some (.int .i64 fallen)) (go_keep) (first | (go_at_call 17; refine (used_any A n cap inc delay l0 l1 m0 m1 p0 p1 1 since fallen st now _ (by omega) (by omega) (by omega) (by omega) (by omega) (by omega)).mono ?_; rintro e w' ⟨rfl, rfl⟩))
  clear c0 c1 c2 c3 c4 c5 c6 c7 c8 c9 c10 c11 c12
  go_wp2
  go_ret2
  refine ⟨by rw [HZ.out]; exact congrArg (fun z => Ending.returned (.tuple #[.int .i64 z, .int .i64 0])) (IntWalk.i64_in _ (by omega)), ?_⟩
  go_grown

set_option maxHeartbeats 1000000 in
theorem Left_fall_11 (A : Option Addr) (n cap : Nat) (inc delay : Int) (ps : List (Int × Int)) (l0 l1 m0 m1 p0 p1 since fallen : Int) (st : Bool) (now : Int) (w : World) (hn : n ≤ 9223372036854775807) (hp : PerAt w w.heap.size A n ps) (hr : RuleOk n inc delay ps) (hk : ClkOk n l0 l1 m0 m1 p0 p1 1 since fallen) (e0 : witB now since 100000000 = true) (hf : fallen < 0) (hu : l1 < usedZ st delay since now) :
    Calls Try.prog 8 #[.agg #[.slice A n cap, .int .i64 inc, .int .i64 delay], .agg #[.int .i64 l0, .int .i64 l1, .int .i64 m0, .int .i64 m1, .int .i64 p0, .int .i64 p1, .int .i64 1, .int .i64 since, .bool st, .int .i64 fallen], .int .i64 1, .int .i64 now] w (fun e w' => e = .returned (.tuple #[.int .i64 (leftZ true fallen l1 l1 (usedZ st delay since now)), .int .i64 0]) ∧ Below w.heap.size w w') := by
  have HZ := Lib.hid (show leftZ true fallen l1 l1 (usedZ st delay since now) = 0 by unfold leftZ; rw [if_neg (by omega), if_pos hu]; rfl)
  have e1 : witB 1 0 1 = true := by decide
  have H := Lib.hid hr
  have HC := Lib.hid hk
  clear hr hk
  have hP := Lib.hid ((hp.alloc (.cells #[.slice A n cap, .int .i64 inc, .int .i64 delay] 24)).alloc (.cells #[.int .i64 l0, .int .i64 l1, .int .i64 m0, .int .i64 m1, .int .i64 p0, .int .i64 p1, .int .i64 1, .int .i64 since, .bool st, .int .i64 fallen] 27))
  clear hp
  go_enter Try.func8, Try.ntmps8
  go_wp2_with (go_at_call 16; refine (within_any _ _ _ _).mono ?_; rintro e w' ⟨rfl, rfl⟩)
  refine (Look_fall_1 A n cap inc delay ps l0 l1 m0 m1 p0 p1 since fallen st now _ hn hP.out H.out HC.out e0 hf hu).mono ?_
  rintro e w1 ⟨rfl, hb⟩
  obtain ⟨hcell, hfr⟩ := bcell hb
  have hs := hb.size
  (try simp only [World.size_alloc] at hs)
  have hz0 : w.heap.size < w1.heap.size := by omega
  have hz1 : w.heap.size + 1 < w1.heap.size := by omega
  have hbel := (((Below.refl w.heap.size w).alloc (by go_size) _).alloc (by go_size) _).trans (hb.mono (by go_size))
  go_wp2
  go_ret2
  refine ⟨by rw [HZ.out]; rfl, ?_⟩
  go_grown
end Go.Proofs.Ytpcllegmdioafaa
