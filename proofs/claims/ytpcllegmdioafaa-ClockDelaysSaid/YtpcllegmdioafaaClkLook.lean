/- The contracts of clock.used and clock.Look. -/
import Derived.Test.YtpcllegmdioafaaClkValid
import Derived.Deep.RegionHeld3
namespace Go.Proofs.Ytpcllegmdioafaa
open Go.ChangeShapes Go.WideShapes Go.ChangeAt Go.RowKit
set_option linter.unusedVariables false

/-- the time that a clock has used. -/
def usedZ (st : Bool) (delay since now : Int) : Int := if st = true then 0 else max 0 (now - since - delay)
theorem usedZ_b (st : Bool) (delay since now : Int) (h1 : 0 ≤ since) (h2 : 0 ≤ delay) (h3 : 0 ≤ now) (h4 : now ≤ 100000000) : 0 ≤ usedZ st delay since now ∧ usedZ st delay since now ≤ 100000000 := by
  unfold usedZ; split <;> omega

set_option maxHeartbeats 1000000 in
theorem used_any (A : Option Addr) (n cap : Nat) (inc delay : Int) (l0 l1 m0 m1 p0 p1 turn since fallen : Int) (st : Bool) (now : Int) (w : World) (h1 : 0 ≤ since) (h1' : since ≤ 100000000) (h2 : 0 ≤ delay) (h2' : delay ≤ 100000000) (h3 : 0 ≤ now) (h4 : now ≤ 100000000) :
    Calls Try.prog 17 #[.agg #[.slice A n cap, .int .i64 inc, .int .i64 delay], .agg #[.int .i64 l0, .int .i64 l1, .int .i64 m0, .int .i64 m1, .int .i64 p0, .int .i64 p1, .int .i64 turn, .int .i64 since, .bool st, .int .i64 fallen], .int .i64 now] w fun e w' => e = .returned (.int .i64 (usedZ st delay since now)) ∧ (w.alloc (.cells #[.slice A n cap, .int .i64 inc, .int .i64 delay] 24)).alloc (.cells #[.int .i64 l0, .int .i64 l1, .int .i64 m0, .int .i64 m1, .int .i64 p0, .int .i64 p1, .int .i64 turn, .int .i64 since, .bool st, .int .i64 fallen] 27) = w' := by
  cases st
  · by_cases h : 0 < now - since - delay
    · have H := Lib.hid (show usedZ false delay since now = now - since - delay by unfold usedZ; simp; omega)
      go_enter Try.func17, Try.ntmps17
      go_wp2
      go_ret
      exact ⟨by rw [H.out]; rfl, rfl⟩
    · have H := Lib.hid (show usedZ false delay since now = 0 by unfold usedZ; simp; omega)
      go_enter Try.func17, Try.ntmps17
      go_wp2
      go_ret
      exact ⟨by rw [H.out]; rfl, rfl⟩
  · have H := Lib.hid (show usedZ true delay since now = 0 by unfold usedZ; simp)
    go_enter Try.func17, Try.ntmps17
    go_wp2
    go_ret
    exact ⟨by rw [H.out]; rfl, rfl⟩

set_option maxHeartbeats 1000000 in
theorem Look_bad (A : Option Addr) (n cap : Nat) (inc delay : Int) (ps : List (Int × Int)) (l0 l1 m0 m1 p0 p1 turn since fallen : Int) (st : Bool) (now : Int) (w : World) (hn : n ≤ 9223372036854775807) (hp : PerAt w w.heap.size A n ps)
    (h : ¬ (RuleOk n inc delay ps ∧ ClkOk n l0 l1 m0 m1 p0 p1 turn since fallen)) :
    Calls Try.prog 13 #[.agg #[.slice A n cap, .int .i64 inc, .int .i64 delay], .agg #[.int .i64 l0, .int .i64 l1, .int .i64 m0, .int .i64 m1, .int .i64 p0, .int .i64 p1, .int .i64 turn, .int .i64 since, .bool st, .int .i64 fallen], .int .i64 now] w
      (fun e w' => ∃ c : Int, c ≠ 0 ∧ e = .returned (.tuple #[.agg #[.int .i64 0, .int .i64 0, .int .i64 0, .int .i64 0, .int .i64 0, .int .i64 0, .int .i64 0, .int .i64 0, .bool false, .int .i64 0], .int .i64 c]) ∧ Below w.heap.size w w') := by
  have H := Lib.hid h
  clear h
  have hP := Lib.hid (((hp.alloc (.cells #[.slice A n cap, .int .i64 inc, .int .i64 delay] 24)).alloc (.cells #[.int .i64 l0, .int .i64 l1, .int .i64 m0, .int .i64 m1, .int .i64 p0, .int .i64 p1, .int .i64 turn, .int .i64 since, .bool st, .int .i64 fallen] 27)).alloc (.cells #[.int .i64 0, .int .i64 0, .int .i64 0, .int .i64 0, .int .i64 0, .int .i64 0, .int .i64 0, .int .i64 0, .bool false, .int .i64 0] 27))
  clear hp
  go_enter Try.func13, Try.ntmps13
  go_wp2_with fail
  refine (Valid_any A n cap inc delay ps l0 l1 m0 m1 p0 p1 turn since fallen st _ hn (hP.out)).mono ?_
  rintro e w1 ⟨c, rfl, hc, hb⟩
  have h1 : (c != 0) = true := by rw [bne_iff_ne]; exact fun h0 => H.out (hc.1 h0)
  clear hc
  obtain ⟨hcell, hfr⟩ := bcell hb
  have hs := hb.size
  (try simp only [World.size_alloc] at hs)
  have hz0 : w.heap.size < w1.heap.size := by omega
  have hz1 : w.heap.size + 1 < w1.heap.size := by omega
  have hz2 : w.heap.size + 1 + 1 < w1.heap.size := by omega
  have hbel := (((((Below.refl w.heap.size w).alloc (by go_size) _).alloc (by go_size) _).alloc (by go_size) _).trans (hb.mono (by go_size)))
  go_wp2
  refine bodyPost_ret (v := .tuple #[.agg #[.int .i64 0, .int .i64 0, .int .i64 0, .int .i64 0, .int .i64 0, .int .i64 0, .int .i64 0, .int .i64 0, .bool false, .int .i64 0], .int .i64 c]) (by simp [results, Try.results13, go_sem, hcell]) rfl ?_
  refine ⟨c, by simpa using h1, rfl, ?_⟩
  go_grown

set_option maxHeartbeats 1000000 in
theorem Look_time (A : Option Addr) (n cap : Nat) (inc delay : Int) (ps : List (Int × Int)) (l0 l1 m0 m1 p0 p1 turn since fallen : Int) (st : Bool) (now : Int) (w : World) (hn : n ≤ 9223372036854775807) (hp : PerAt w w.heap.size A n ps)
    (hr : RuleOk n inc delay ps) (hk : ClkOk n l0 l1 m0 m1 p0 p1 turn since fallen) (e0 : witB now since 100000000 = false) :
    Calls Try.prog 13 #[.agg #[.slice A n cap, .int .i64 inc, .int .i64 delay], .agg #[.int .i64 l0, .int .i64 l1, .int .i64 m0, .int .i64 m1, .int .i64 p0, .int .i64 p1, .int .i64 turn, .int .i64 since, .bool st, .int .i64 fallen], .int .i64 now] w
      (fun e w' => e = .returned (.tuple #[.agg #[.int .i64 0, .int .i64 0, .int .i64 0, .int .i64 0, .int .i64 0, .int .i64 0, .int .i64 0, .int .i64 0, .bool false, .int .i64 0], .int .i64 11]) ∧ Below w.heap.size w w') := by
  have H := Lib.hid hr
  have HC := Lib.hid hk
  clear hr hk
  have hP := Lib.hid (((hp.alloc (.cells #[.slice A n cap, .int .i64 inc, .int .i64 delay] 24)).alloc (.cells #[.int .i64 l0, .int .i64 l1, .int .i64 m0, .int .i64 m1, .int .i64 p0, .int .i64 p1, .int .i64 turn, .int .i64 since, .bool st, .int .i64 fallen] 27)).alloc (.cells #[.int .i64 0, .int .i64 0, .int .i64 0, .int .i64 0, .int .i64 0, .int .i64 0, .int .i64 0, .int .i64 0, .bool false, .int .i64 0] 27))
  clear hp
  go_enter Try.func13, Try.ntmps13
  go_wp2_with fail
  refine (Valid_any A n cap inc delay ps l0 l1 m0 m1 p0 p1 turn since fallen st _ hn (hP.out)).mono ?_
  rintro e w1 ⟨c, rfl, hc, hb⟩
  obtain rfl : c = 0 := hc.2 ⟨H.out, HC.out⟩
  clear hc
  obtain ⟨hcell, hfr⟩ := bcell hb
  have hs := hb.size
  (try simp only [World.size_alloc] at hs)
  have hz0 : w.heap.size < w1.heap.size := by omega
  have hz1 : w.heap.size + 1 < w1.heap.size := by omega
  have hz2 : w.heap.size + 1 + 1 < w1.heap.size := by omega
  have hbel := (((((Below.refl w.heap.size w).alloc (by go_size) _).alloc (by go_size) _).alloc (by go_size) _).trans (hb.mono (by go_size)))
  go_wp2_with (go_at_call 16; refine (within_any _ _ _ _).mono ?_; rintro e w' ⟨rfl, rfl⟩)
  refine bodyPost_ret (v := .tuple #[.agg #[.int .i64 0, .int .i64 0, .int .i64 0, .int .i64 0, .int .i64 0, .int .i64 0, .int .i64 0, .int .i64 0, .bool false, .int .i64 0], .int .i64 11]) (by simp [results, Try.results13, go_sem, hcell]) rfl ?_
  refine ⟨rfl, ?_⟩
  go_grown

set_option maxHeartbeats 1000000 in
theorem Look_over (A : Option Addr) (n cap : Nat) (inc delay : Int) (ps : List (Int × Int)) (l0 l1 m0 m1 p0 p1 turn since fallen : Int) (st : Bool) (now : Int) (w : World) (hn : n ≤ 9223372036854775807) (hp : PerAt w w.heap.size A n ps)
    (hr : RuleOk n inc delay ps) (hk : ClkOk n l0 l1 m0 m1 p0 p1 turn since fallen) (e0 : witB now since 100000000 = true) (hf : 0 ≤ fallen) :
    Calls Try.prog 13 #[.agg #[.slice A n cap, .int .i64 inc, .int .i64 delay], .agg #[.int .i64 l0, .int .i64 l1, .int .i64 m0, .int .i64 m1, .int .i64 p0, .int .i64 p1, .int .i64 turn, .int .i64 since, .bool st, .int .i64 fallen], .int .i64 now] w
      (fun e w' => e = .returned (.tuple #[.agg #[.int .i64 l0, .int .i64 l1, .int .i64 m0, .int .i64 m1, .int .i64 p0, .int .i64 p1, .int .i64 turn, .int .i64 since, .bool st, .int .i64 fallen], .int .i64 0]) ∧ Below w.heap.size w w') := by
  have H := Lib.hid hr
  have HC := Lib.hid hk
  clear hr hk
  have hf' : decide (fallen < 0) = false := by simp; omega
  have hP := Lib.hid (((hp.alloc (.cells #[.slice A n cap, .int .i64 inc, .int .i64 delay] 24)).alloc (.cells #[.int .i64 l0, .int .i64 l1, .int .i64 m0, .int .i64 m1, .int .i64 p0, .int .i64 p1, .int .i64 turn, .int .i64 since, .bool st, .int .i64 fallen] 27)).alloc (.cells #[.int .i64 0, .int .i64 0, .int .i64 0, .int .i64 0, .int .i64 0, .int .i64 0, .int .i64 0, .int .i64 0, .bool false, .int .i64 0] 27))
  clear hp
  go_enter Try.func13, Try.ntmps13
  go_wp2_with fail
  refine (Valid_any A n cap inc delay ps l0 l1 m0 m1 p0 p1 turn since fallen st _ hn (hP.out)).mono ?_
  rintro e w1 ⟨c, rfl, hc, hb⟩
  obtain rfl : c = 0 := hc.2 ⟨H.out, HC.out⟩
  clear hc
  obtain ⟨hcell, hfr⟩ := bcell hb
  have hs := hb.size
  (try simp only [World.size_alloc] at hs)
  have hz0 : w.heap.size < w1.heap.size := by omega
  have hz1 : w.heap.size + 1 < w1.heap.size := by omega
  have hz2 : w.heap.size + 1 + 1 < w1.heap.size := by omega
  have hbel := (((((Below.refl w.heap.size w).alloc (by go_size) _).alloc (by go_size) _).alloc (by go_size) _).trans (hb.mono (by go_size)))
  go_wp2_with (go_at_call 16; refine (within_any _ _ _ _).mono ?_; rintro e w' ⟨rfl, rfl⟩)
  go_quiet (fail)
  go_wp2
  refine bodyPost_ret (v := .tuple #[.agg #[.int .i64 l0, .int .i64 l1, .int .i64 m0, .int .i64 m1, .int .i64 p0, .int .i64 p1, .int .i64 turn, .int .i64 since, .bool st, .int .i64 fallen], .int .i64 0]) (by simp [results, Try.results13, go_sem, hcell]) rfl ?_
  have hbel2 := below_drewN hbel nq
  refine ⟨rfl, ?_⟩
  go_grown

set_option maxHeartbeats 1000000 in
theorem Look_stay_0 (A : Option Addr) (n cap : Nat) (inc delay : Int) (ps : List (Int × Int)) (l0 l1 m0 m1 p0 p1 since fallen : Int) (st : Bool) (now : Int) (w : World) (hn : n ≤ 9223372036854775807) (hp : PerAt w w.heap.size A n ps)
    (hr : RuleOk n inc delay ps) (hk : ClkOk n l0 l1 m0 m1 p0 p1 0 since fallen) (e0 : witB now since 100000000 = true) (hf : fallen < 0) (hu : usedZ st delay since now ≤ l0) :
    Calls Try.prog 13 #[.agg #[.slice A n cap, .int .i64 inc, .int .i64 delay], .agg #[.int .i64 l0, .int .i64 l1, .int .i64 m0, .int .i64 m1, .int .i64 p0, .int .i64 p1, .int .i64 0, .int .i64 since, .bool st, .int .i64 fallen], .int .i64 now] w
      (fun e w' => e = .returned (.tuple #[.agg #[.int .i64 l0, .int .i64 l1, .int .i64 m0, .int .i64 m1, .int .i64 p0, .int .i64 p1, .int .i64 0, .int .i64 since, .bool st, .int .i64 fallen], .int .i64 0]) ∧ Below w.heap.size w w') := by
  have hnow := witB_iff.1 e0
  have hsn := hk.2.2.1
  have hdl := hr.2.2.1
  have H := Lib.hid hr
  have HC := Lib.hid hk
  clear hr hk
  have hf' : decide (fallen < 0) = true := by simp; omega
  have hP := Lib.hid (((hp.alloc (.cells #[.slice A n cap, .int .i64 inc, .int .i64 delay] 24)).alloc (.cells #[.int .i64 l0, .int .i64 l1, .int .i64 m0, .int .i64 m1, .int .i64 p0, .int .i64 p1, .int .i64 0, .int .i64 since, .bool st, .int .i64 fallen] 27)).alloc (.cells #[.int .i64 0, .int .i64 0, .int .i64 0, .int .i64 0, .int .i64 0, .int .i64 0, .int .i64 0, .int .i64 0, .bool false, .int .i64 0] 27))
  clear hp
  go_enter Try.func13, Try.ntmps13
  go_wp2_with fail
  refine (Valid_any A n cap inc delay ps l0 l1 m0 m1 p0 p1 0 since fallen st _ hn (hP.out)).mono ?_
  rintro e w1 ⟨c, rfl, hc, hb⟩
  obtain rfl : c = 0 := hc.2 ⟨H.out, HC.out⟩
  clear hc
  obtain ⟨hcell, hfr⟩ := bcell hb
  have hs := hb.size
  (try simp only [World.size_alloc] at hs)
  have hz0 : w.heap.size < w1.heap.size := by omega
  have hz1 : w.heap.size + 1 < w1.heap.size := by omega
  have hz2 : w.heap.size + 1 + 1 < w1.heap.size := by omega
  have hbel := (((((Below.refl w.heap.size w).alloc (by go_size) _).alloc (by go_size) _).alloc (by go_size) _).trans (hb.mono (by go_size)))
  go_wp2_with (go_at_call 16; refine (within_any _ _ _ _).mono ?_; rintro e w' ⟨rfl, rfl⟩)
  have c0 : w1.cell? ⟨w.heap.size, 0, none⟩ = some (.slice A n cap) := by simp [hcell, go_sem]
  have c1 : w1.cell? ⟨w.heap.size, 1, none⟩ = some (.int .i64 inc) := by simp [hcell, go_sem]
  have c2 : w1.cell? ⟨w.heap.size, 2, none⟩ = some (.int .i64 delay) := by simp [hcell, go_sem]
  have c3 : w1.cell? ⟨w.heap.size + 1, 0, none⟩ = some (.int .i64 l0) := by simp [hcell, go_sem]
  have c4 : w1.cell? ⟨w.heap.size + 1, 1, none⟩ = some (.int .i64 l1) := by simp [hcell, go_sem]
  have c5 : w1.cell? ⟨w.heap.size + 1, 2, none⟩ = some (.int .i64 m0) := by simp [hcell, go_sem]
  have c6 : w1.cell? ⟨w.heap.size + 1, 3, none⟩ = some (.int .i64 m1) := by simp [hcell, go_sem]
  have c7 : w1.cell? ⟨w.heap.size + 1, 4, none⟩ = some (.int .i64 p0) := by simp [hcell, go_sem]
  have c8 : w1.cell? ⟨w.heap.size + 1, 5, none⟩ = some (.int .i64 p1) := by simp [hcell, go_sem]
  have c9 : w1.cell? ⟨w.heap.size + 1, 6, none⟩ = some (.int .i64 0) := by simp [hcell, go_sem]
  have c10 : w1.cell? ⟨w.heap.size + 1, 7, none⟩ = some (.int .i64 since) := by simp [hcell, go_sem]
  have c11 : w1.cell? ⟨w.heap.size + 1, 8, none⟩ = some (.bool st) := by simp [hcell, go_sem]
  have c12 : w1.cell? ⟨w.heap.size + 1, 9, none⟩ = some (.int .i64 fallen) := by simp [hcell, go_sem]
  have Hcell := Lib.hid hcell
  have Hfr := Lib.hid hfr
  clear hcell hfr
  go_region_held3 (fun w' => w'.cell? ⟨w.heap.size, 0, none⟩ = some (.slice A n cap) ∧ w'.cell? ⟨w.heap.size, 1, none⟩ = some (.int .i64 inc) ∧ w'.cell? ⟨w.heap.size, 2, none⟩ = some (.int .i64 delay) ∧ w'.cell? ⟨w.heap.size + 1, 0, none⟩ = some (.int .i64 l0) ∧ w'.cell? ⟨w.heap.size + 1, 1, none⟩ = some (.int .i64 l1) ∧ w'.cell? ⟨w.heap.size + 1, 2, none⟩ = some (.int .i64 m0) ∧ w'.cell? ⟨w.heap.size + 1, 3, none⟩ = some (.int .i64 m1) ∧ w'.cell? ⟨w.heap.size + 1, 4, none⟩ = some (.int .i64 p0) ∧ w'.cell? ⟨w.heap.size + 1, 5, none⟩ = some (.int .i64 p1) ∧ w'.cell? ⟨w.heap.size + 1, 6, none⟩ = some (.int .i64 0) ∧ w'.cell? ⟨w.heap.size + 1, 7, none⟩ = some (.int .i64 since) ∧ w'.cell? ⟨w.heap.size + 1, 8, none⟩ = some (.bool st) ∧ w'.cell? ⟨w.heap.size + 1, 9, none⟩ = some (.int .i64 fallen)) (go_keep) (first | (go_at_call 17; refine (used_any A n cap inc delay l0 l1 m0 m1 p0 p1 0 since fallen st now _ (by omega) (by omega) (by omega) (by omega) (by omega) (by omega)).mono ?_; rintro e w' ⟨rfl, rfl⟩))
  generalize hW2 : ((w1.alloc (.cells #[.slice A n cap, .int .i64 inc, .int .i64 delay] 24)).alloc (.cells #[.int .i64 l0, .int .i64 l1, .int .i64 m0, .int .i64 m1, .int .i64 p0, .int .i64 p1, .int .i64 0, .int .i64 since, .bool st, .int .i64 fallen] 27)).drew = w2
  have hb2 : Below (((w.alloc (.cells #[.slice A n cap, .int .i64 inc, .int .i64 delay] 24)).alloc (.cells #[.int .i64 l0, .int .i64 l1, .int .i64 m0, .int .i64 m1, .int .i64 p0, .int .i64 p1, .int .i64 0, .int .i64 since, .bool st, .int .i64 fallen] 27)).alloc (.cells #[.int .i64 0, .int .i64 0, .int .i64 0, .int .i64 0, .int .i64 0, .int .i64 0, .int .i64 0, .int .i64 0, .bool false, .int .i64 0] 27)).heap.size (((w.alloc (.cells #[.slice A n cap, .int .i64 inc, .int .i64 delay] 24)).alloc (.cells #[.int .i64 l0, .int .i64 l1, .int .i64 m0, .int .i64 m1, .int .i64 p0, .int .i64 p1, .int .i64 0, .int .i64 since, .bool st, .int .i64 fallen] 27)).alloc (.cells #[.int .i64 0, .int .i64 0, .int .i64 0, .int .i64 0, .int .i64 0, .int .i64 0, .int .i64 0, .int .i64 0, .bool false, .int .i64 0] 27)) w2 := by rw [← hW2]; exact ((hb.alloc (by go_size) _).alloc (by go_size) _).drew
  clear hW2 Hcell Hfr hbel hs hz0 hz1 hz2
  obtain ⟨hcell, hfr⟩ := bcell hb2
  have hs := hb2.size
  (try simp only [World.size_alloc] at hs)
  have hz0 : w.heap.size < w2.heap.size := by omega
  have hz1 : w.heap.size + 1 < w2.heap.size := by omega
  have hz2 : w.heap.size + 1 + 1 < w2.heap.size := by omega
  have hbel := (((((Below.refl w.heap.size w).alloc (by go_size) _).alloc (by go_size) _).alloc (by go_size) _).trans (hb2.mono (by go_size)))
  clear c0 c1 c2 c3 c4 c5 c6 c7 c8 c9 c10 c11 c12
  go_wp2
  refine bodyPost_ret (v := .tuple #[.agg #[.int .i64 l0, .int .i64 l1, .int .i64 m0, .int .i64 m1, .int .i64 p0, .int .i64 p1, .int .i64 0, .int .i64 since, .bool st, .int .i64 fallen], .int .i64 0]) (by simp [results, Try.results13, go_sem, hcell]) rfl ?_
  refine ⟨rfl, ?_⟩
  go_grown

set_option maxHeartbeats 1000000 in
theorem Look_fall_0 (A : Option Addr) (n cap : Nat) (inc delay : Int) (ps : List (Int × Int)) (l0 l1 m0 m1 p0 p1 since fallen : Int) (st : Bool) (now : Int) (w : World) (hn : n ≤ 9223372036854775807) (hp : PerAt w w.heap.size A n ps)
    (hr : RuleOk n inc delay ps) (hk : ClkOk n l0 l1 m0 m1 p0 p1 0 since fallen) (e0 : witB now since 100000000 = true) (hf : fallen < 0) (hu : l0 < usedZ st delay since now) :
    Calls Try.prog 13 #[.agg #[.slice A n cap, .int .i64 inc, .int .i64 delay], .agg #[.int .i64 l0, .int .i64 l1, .int .i64 m0, .int .i64 m1, .int .i64 p0, .int .i64 p1, .int .i64 0, .int .i64 since, .bool st, .int .i64 fallen], .int .i64 now] w
      (fun e w' => e = .returned (.tuple #[.agg #[.int .i64 0, .int .i64 l1, .int .i64 m0, .int .i64 m1, .int .i64 p0, .int .i64 p1, .int .i64 0, .int .i64 since, .bool st, .int .i64 0], .int .i64 0]) ∧ Below w.heap.size w w') := by
  have hnow := witB_iff.1 e0
  have hsn := hk.2.2.1
  have hdl := hr.2.2.1
  have H := Lib.hid hr
  have HC := Lib.hid hk
  clear hr hk
  have hf' : decide (fallen < 0) = true := by simp; omega
  have hP := Lib.hid (((hp.alloc (.cells #[.slice A n cap, .int .i64 inc, .int .i64 delay] 24)).alloc (.cells #[.int .i64 l0, .int .i64 l1, .int .i64 m0, .int .i64 m1, .int .i64 p0, .int .i64 p1, .int .i64 0, .int .i64 since, .bool st, .int .i64 fallen] 27)).alloc (.cells #[.int .i64 0, .int .i64 0, .int .i64 0, .int .i64 0, .int .i64 0, .int .i64 0, .int .i64 0, .int .i64 0, .bool false, .int .i64 0] 27))
  clear hp
  go_enter Try.func13, Try.ntmps13
  go_wp2_with fail
  refine (Valid_any A n cap inc delay ps l0 l1 m0 m1 p0 p1 0 since fallen st _ hn (hP.out)).mono ?_
  rintro e w1 ⟨c, rfl, hc, hb⟩
  obtain rfl : c = 0 := hc.2 ⟨H.out, HC.out⟩
  clear hc
  obtain ⟨hcell, hfr⟩ := bcell hb
  have hs := hb.size
  (try simp only [World.size_alloc] at hs)
  have hz0 : w.heap.size < w1.heap.size := by omega
  have hz1 : w.heap.size + 1 < w1.heap.size := by omega
  have hz2 : w.heap.size + 1 + 1 < w1.heap.size := by omega
  have hbel := (((((Below.refl w.heap.size w).alloc (by go_size) _).alloc (by go_size) _).alloc (by go_size) _).trans (hb.mono (by go_size)))
  go_wp2_with (go_at_call 16; refine (within_any _ _ _ _).mono ?_; rintro e w' ⟨rfl, rfl⟩)
  have c0 : w1.cell? ⟨w.heap.size, 0, none⟩ = some (.slice A n cap) := by simp [hcell, go_sem]
  have c1 : w1.cell? ⟨w.heap.size, 1, none⟩ = some (.int .i64 inc) := by simp [hcell, go_sem]
  have c2 : w1.cell? ⟨w.heap.size, 2, none⟩ = some (.int .i64 delay) := by simp [hcell, go_sem]
  have c3 : w1.cell? ⟨w.heap.size + 1, 0, none⟩ = some (.int .i64 l0) := by simp [hcell, go_sem]
  have c4 : w1.cell? ⟨w.heap.size + 1, 1, none⟩ = some (.int .i64 l1) := by simp [hcell, go_sem]
  have c5 : w1.cell? ⟨w.heap.size + 1, 2, none⟩ = some (.int .i64 m0) := by simp [hcell, go_sem]
  have c6 : w1.cell? ⟨w.heap.size + 1, 3, none⟩ = some (.int .i64 m1) := by simp [hcell, go_sem]
  have c7 : w1.cell? ⟨w.heap.size + 1, 4, none⟩ = some (.int .i64 p0) := by simp [hcell, go_sem]
  have c8 : w1.cell? ⟨w.heap.size + 1, 5, none⟩ = some (.int .i64 p1) := by simp [hcell, go_sem]
  have c9 : w1.cell? ⟨w.heap.size + 1, 6, none⟩ = some (.int .i64 0) := by simp [hcell, go_sem]
  have c10 : w1.cell? ⟨w.heap.size + 1, 7, none⟩ = some (.int .i64 since) := by simp [hcell, go_sem]
  have c11 : w1.cell? ⟨w.heap.size + 1, 8, none⟩ = some (.bool st) := by simp [hcell, go_sem]
  have c12 : w1.cell? ⟨w.heap.size + 1, 9, none⟩ = some (.int .i64 fallen) := by simp [hcell, go_sem]
  have Hcell := Lib.hid hcell
  have Hfr := Lib.hid hfr
  clear hcell hfr
  go_region_held3 (fun w' => w'.cell? ⟨w.heap.size, 0, none⟩ = some (.slice A n cap) ∧ w'.cell? ⟨w.heap.size, 1, none⟩ = some (.int .i64 inc) ∧ w'.cell? ⟨w.heap.size, 2, none⟩ = some (.int .i64 delay) ∧ w'.cell? ⟨w.heap.size + 1, 0, none⟩ = some (.int .i64 l0) ∧ w'.cell? ⟨w.heap.size + 1, 1, none⟩ = some (.int .i64 l1) ∧ w'.cell? ⟨w.heap.size + 1, 2, none⟩ = some (.int .i64 m0) ∧ w'.cell? ⟨w.heap.size + 1, 3, none⟩ = some (.int .i64 m1) ∧ w'.cell? ⟨w.heap.size + 1, 4, none⟩ = some (.int .i64 p0) ∧ w'.cell? ⟨w.heap.size + 1, 5, none⟩ = some (.int .i64 p1) ∧ w'.cell? ⟨w.heap.size + 1, 6, none⟩ = some (.int .i64 0) ∧ w'.cell? ⟨w.heap.size + 1, 7, none⟩ = some (.int .i64 since) ∧ w'.cell? ⟨w.heap.size + 1, 8, none⟩ = some (.bool st) ∧ w'.cell? ⟨w.heap.size + 1, 9, none⟩ = some (.int .i64 fallen)) (go_keep) (first | (go_at_call 17; refine (used_any A n cap inc delay l0 l1 m0 m1 p0 p1 0 since fallen st now _ (by omega) (by omega) (by omega) (by omega) (by omega) (by omega)).mono ?_; rintro e w' ⟨rfl, rfl⟩))
  generalize hW2 : ((w1.alloc (.cells #[.slice A n cap, .int .i64 inc, .int .i64 delay] 24)).alloc (.cells #[.int .i64 l0, .int .i64 l1, .int .i64 m0, .int .i64 m1, .int .i64 p0, .int .i64 p1, .int .i64 0, .int .i64 since, .bool st, .int .i64 fallen] 27)).drew = w2
  have hb2 : Below (((w.alloc (.cells #[.slice A n cap, .int .i64 inc, .int .i64 delay] 24)).alloc (.cells #[.int .i64 l0, .int .i64 l1, .int .i64 m0, .int .i64 m1, .int .i64 p0, .int .i64 p1, .int .i64 0, .int .i64 since, .bool st, .int .i64 fallen] 27)).alloc (.cells #[.int .i64 0, .int .i64 0, .int .i64 0, .int .i64 0, .int .i64 0, .int .i64 0, .int .i64 0, .int .i64 0, .bool false, .int .i64 0] 27)).heap.size (((w.alloc (.cells #[.slice A n cap, .int .i64 inc, .int .i64 delay] 24)).alloc (.cells #[.int .i64 l0, .int .i64 l1, .int .i64 m0, .int .i64 m1, .int .i64 p0, .int .i64 p1, .int .i64 0, .int .i64 since, .bool st, .int .i64 fallen] 27)).alloc (.cells #[.int .i64 0, .int .i64 0, .int .i64 0, .int .i64 0, .int .i64 0, .int .i64 0, .int .i64 0, .int .i64 0, .bool false, .int .i64 0] 27)) w2 := by rw [← hW2]; exact ((hb.alloc (by go_size) _).alloc (by go_size) _).drew
  clear hW2 Hcell Hfr hbel hs hz0 hz1 hz2
  obtain ⟨hcell, hfr⟩ := bcell hb2
  have hs := hb2.size
  (try simp only [World.size_alloc] at hs)
  have hz0 : w.heap.size < w2.heap.size := by omega
  have hz1 : w.heap.size + 1 < w2.heap.size := by omega
  have hz2 : w.heap.size + 1 + 1 < w2.heap.size := by omega
  have hbel := (((((Below.refl w.heap.size w).alloc (by go_size) _).alloc (by go_size) _).alloc (by go_size) _).trans (hb2.mono (by go_size)))
  clear c0 c1 c2 c3 c4 c5 c6 c7 c8 c9 c10 c11 c12
  go_wp2
  refine bodyPost_ret (v := .tuple #[.agg #[.int .i64 0, .int .i64 l1, .int .i64 m0, .int .i64 m1, .int .i64 p0, .int .i64 p1, .int .i64 0, .int .i64 since, .bool st, .int .i64 0], .int .i64 0]) (by simp [results, Try.results13, go_sem, hcell]) rfl ?_
  refine ⟨rfl, ?_⟩
  go_grown

set_option maxHeartbeats 1000000 in
theorem Look_stay_1 (A : Option Addr) (n cap : Nat) (inc delay : Int) (ps : List (Int × Int)) (l0 l1 m0 m1 p0 p1 since fallen : Int) (st : Bool) (now : Int) (w : World) (hn : n ≤ 9223372036854775807) (hp : PerAt w w.heap.size A n ps)
    (hr : RuleOk n inc delay ps) (hk : ClkOk n l0 l1 m0 m1 p0 p1 1 since fallen) (e0 : witB now since 100000000 = true) (hf : fallen < 0) (hu : usedZ st delay since now ≤ l1) :
    Calls Try.prog 13 #[.agg #[.slice A n cap, .int .i64 inc, .int .i64 delay], .agg #[.int .i64 l0, .int .i64 l1, .int .i64 m0, .int .i64 m1, .int .i64 p0, .int .i64 p1, .int .i64 1, .int .i64 since, .bool st, .int .i64 fallen], .int .i64 now] w
      (fun e w' => e = .returned (.tuple #[.agg #[.int .i64 l0, .int .i64 l1, .int .i64 m0, .int .i64 m1, .int .i64 p0, .int .i64 p1, .int .i64 1, .int .i64 since, .bool st, .int .i64 fallen], .int .i64 0]) ∧ Below w.heap.size w w') := by
  have hnow := witB_iff.1 e0
  have hsn := hk.2.2.1
  have hdl := hr.2.2.1
  have H := Lib.hid hr
  have HC := Lib.hid hk
  clear hr hk
  have hf' : decide (fallen < 0) = true := by simp; omega
  have hP := Lib.hid (((hp.alloc (.cells #[.slice A n cap, .int .i64 inc, .int .i64 delay] 24)).alloc (.cells #[.int .i64 l0, .int .i64 l1, .int .i64 m0, .int .i64 m1, .int .i64 p0, .int .i64 p1, .int .i64 1, .int .i64 since, .bool st, .int .i64 fallen] 27)).alloc (.cells #[.int .i64 0, .int .i64 0, .int .i64 0, .int .i64 0, .int .i64 0, .int .i64 0, .int .i64 0, .int .i64 0, .bool false, .int .i64 0] 27))
  clear hp
  go_enter Try.func13, Try.ntmps13
  go_wp2_with fail
  refine (Valid_any A n cap inc delay ps l0 l1 m0 m1 p0 p1 1 since fallen st _ hn (hP.out)).mono ?_
  rintro e w1 ⟨c, rfl, hc, hb⟩
  obtain rfl : c = 0 := hc.2 ⟨H.out, HC.out⟩
  clear hc
  obtain ⟨hcell, hfr⟩ := bcell hb
  have hs := hb.size
  (try simp only [World.size_alloc] at hs)
  have hz0 : w.heap.size < w1.heap.size := by omega
  have hz1 : w.heap.size + 1 < w1.heap.size := by omega
  have hz2 : w.heap.size + 1 + 1 < w1.heap.size := by omega
  have hbel := (((((Below.refl w.heap.size w).alloc (by go_size) _).alloc (by go_size) _).alloc (by go_size) _).trans (hb.mono (by go_size)))
  go_wp2_with (go_at_call 16; refine (within_any _ _ _ _).mono ?_; rintro e w' ⟨rfl, rfl⟩)
  have c0 : w1.cell? ⟨w.heap.size, 0, none⟩ = some (.slice A n cap) := by simp [hcell, go_sem]
  have c1 : w1.cell? ⟨w.heap.size, 1, none⟩ = some (.int .i64 inc) := by simp [hcell, go_sem]
  have c2 : w1.cell? ⟨w.heap.size, 2, none⟩ = some (.int .i64 delay) := by simp [hcell, go_sem]
  have c3 : w1.cell? ⟨w.heap.size + 1, 0, none⟩ = some (.int .i64 l0) := by simp [hcell, go_sem]
  have c4 : w1.cell? ⟨w.heap.size + 1, 1, none⟩ = some (.int .i64 l1) := by simp [hcell, go_sem]
  have c5 : w1.cell? ⟨w.heap.size + 1, 2, none⟩ = some (.int .i64 m0) := by simp [hcell, go_sem]
  have c6 : w1.cell? ⟨w.heap.size + 1, 3, none⟩ = some (.int .i64 m1) := by simp [hcell, go_sem]
  have c7 : w1.cell? ⟨w.heap.size + 1, 4, none⟩ = some (.int .i64 p0) := by simp [hcell, go_sem]
  have c8 : w1.cell? ⟨w.heap.size + 1, 5, none⟩ = some (.int .i64 p1) := by simp [hcell, go_sem]
  have c9 : w1.cell? ⟨w.heap.size + 1, 6, none⟩ = some (.int .i64 1) := by simp [hcell, go_sem]
  have c10 : w1.cell? ⟨w.heap.size + 1, 7, none⟩ = some (.int .i64 since) := by simp [hcell, go_sem]
  have c11 : w1.cell? ⟨w.heap.size + 1, 8, none⟩ = some (.bool st) := by simp [hcell, go_sem]
  have c12 : w1.cell? ⟨w.heap.size + 1, 9, none⟩ = some (.int .i64 fallen) := by simp [hcell, go_sem]
  have Hcell := Lib.hid hcell
  have Hfr := Lib.hid hfr
  clear hcell hfr
  go_region_held3 (fun w' => w'.cell? ⟨w.heap.size, 0, none⟩ = some (.slice A n cap) ∧ w'.cell? ⟨w.heap.size, 1, none⟩ = some (.int .i64 inc) ∧ w'.cell? ⟨w.heap.size, 2, none⟩ = some (.int .i64 delay) ∧ w'.cell? ⟨w.heap.size + 1, 0, none⟩ = some (.int .i64 l0) ∧ w'.cell? ⟨w.heap.size + 1, 1, none⟩ = some (.int .i64 l1) ∧ w'.cell? ⟨w.heap.size + 1, 2, none⟩ = some (.int .i64 m0) ∧ w'.cell? ⟨w.heap.size + 1, 3, none⟩ = some (.int .i64 m1) ∧ w'.cell? ⟨w.heap.size + 1, 4, none⟩ = some (.int .i64 p0) ∧ w'.cell? ⟨w.heap.size + 1, 5, none⟩ = some (.int .i64 p1) ∧ w'.cell? ⟨w.heap.size + 1, 6, none⟩ = some (.int .i64 1) ∧ w'.cell? ⟨w.heap.size + 1, 7, none⟩ = some (.int .i64 since) ∧ w'.cell? ⟨w.heap.size + 1, 8, none⟩ = some (.bool st) ∧ w'.cell? ⟨w.heap.size + 1, 9, none⟩ = some (.int .i64 fallen)) (go_keep) (first | (go_at_call 17; refine (used_any A n cap inc delay l0 l1 m0 m1 p0 p1 1 since fallen st now _ (by omega) (by omega) (by omega) (by omega) (by omega) (by omega)).mono ?_; rintro e w' ⟨rfl, rfl⟩))
  generalize hW2 : ((w1.alloc (.cells #[.slice A n cap, .int .i64 inc, .int .i64 delay] 24)).alloc (.cells #[.int .i64 l0, .int .i64 l1, .int .i64 m0, .int .i64 m1, .int .i64 p0, .int .i64 p1, .int .i64 1, .int .i64 since, .bool st, .int .i64 fallen] 27)).drew = w2
  have hb2 : Below (((w.alloc (.cells #[.slice A n cap, .int .i64 inc, .int .i64 delay] 24)).alloc (.cells #[.int .i64 l0, .int .i64 l1, .int .i64 m0, .int .i64 m1, .int .i64 p0, .int .i64 p1, .int .i64 1, .int .i64 since, .bool st, .int .i64 fallen] 27)).alloc (.cells #[.int .i64 0, .int .i64 0, .int .i64 0, .int .i64 0, .int .i64 0, .int .i64 0, .int .i64 0, .int .i64 0, .bool false, .int .i64 0] 27)).heap.size (((w.alloc (.cells #[.slice A n cap, .int .i64 inc, .int .i64 delay] 24)).alloc (.cells #[.int .i64 l0, .int .i64 l1, .int .i64 m0, .int .i64 m1, .int .i64 p0, .int .i64 p1, .int .i64 1, .int .i64 since, .bool st, .int .i64 fallen] 27)).alloc (.cells #[.int .i64 0, .int .i64 0, .int .i64 0, .int .i64 0, .int .i64 0, .int .i64 0, .int .i64 0, .int .i64 0, .bool false, .int .i64 0] 27)) w2 := by rw [← hW2]; exact ((hb.alloc (by go_size) _).alloc (by go_size) _).drew
  clear hW2 Hcell Hfr hbel hs hz0 hz1 hz2
  obtain ⟨hcell, hfr⟩ := bcell hb2
  have hs := hb2.size
  (try simp only [World.size_alloc] at hs)
  have hz0 : w.heap.size < w2.heap.size := by omega
  have hz1 : w.heap.size + 1 < w2.heap.size := by omega
  have hz2 : w.heap.size + 1 + 1 < w2.heap.size := by omega
  have hbel := (((((Below.refl w.heap.size w).alloc (by go_size) _).alloc (by go_size) _).alloc (by go_size) _).trans (hb2.mono (by go_size)))
  clear c0 c1 c2 c3 c4 c5 c6 c7 c8 c9 c10 c11 c12
  go_wp2
  refine bodyPost_ret (v := .tuple #[.agg #[.int .i64 l0, .int .i64 l1, .int .i64 m0, .int .i64 m1, .int .i64 p0, .int .i64 p1, .int .i64 1, .int .i64 since, .bool st, .int .i64 fallen], .int .i64 0]) (by simp [results, Try.results13, go_sem, hcell]) rfl ?_
  refine ⟨rfl, ?_⟩
  go_grown

set_option maxHeartbeats 1000000 in
theorem Look_fall_1 (A : Option Addr) (n cap : Nat) (inc delay : Int) (ps : List (Int × Int)) (l0 l1 m0 m1 p0 p1 since fallen : Int) (st : Bool) (now : Int) (w : World) (hn : n ≤ 9223372036854775807) (hp : PerAt w w.heap.size A n ps)
    (hr : RuleOk n inc delay ps) (hk : ClkOk n l0 l1 m0 m1 p0 p1 1 since fallen) (e0 : witB now since 100000000 = true) (hf : fallen < 0) (hu : l1 < usedZ st delay since now) :
    Calls Try.prog 13 #[.agg #[.slice A n cap, .int .i64 inc, .int .i64 delay], .agg #[.int .i64 l0, .int .i64 l1, .int .i64 m0, .int .i64 m1, .int .i64 p0, .int .i64 p1, .int .i64 1, .int .i64 since, .bool st, .int .i64 fallen], .int .i64 now] w
      (fun e w' => e = .returned (.tuple #[.agg #[.int .i64 l0, .int .i64 0, .int .i64 m0, .int .i64 m1, .int .i64 p0, .int .i64 p1, .int .i64 1, .int .i64 since, .bool st, .int .i64 1], .int .i64 0]) ∧ Below w.heap.size w w') := by
  have hnow := witB_iff.1 e0
  have hsn := hk.2.2.1
  have hdl := hr.2.2.1
  have H := Lib.hid hr
  have HC := Lib.hid hk
  clear hr hk
  have hf' : decide (fallen < 0) = true := by simp; omega
  have hP := Lib.hid (((hp.alloc (.cells #[.slice A n cap, .int .i64 inc, .int .i64 delay] 24)).alloc (.cells #[.int .i64 l0, .int .i64 l1, .int .i64 m0, .int .i64 m1, .int .i64 p0, .int .i64 p1, .int .i64 1, .int .i64 since, .bool st, .int .i64 fallen] 27)).alloc (.cells #[.int .i64 0, .int .i64 0, .int .i64 0, .int .i64 0, .int .i64 0, .int .i64 0, .int .i64 0, .int .i64 0, .bool false, .int .i64 0] 27))
  clear hp
  go_enter Try.func13, Try.ntmps13
  go_wp2_with fail
  refine (Valid_any A n cap inc delay ps l0 l1 m0 m1 p0 p1 1 since fallen st _ hn (hP.out)).mono ?_
  rintro e w1 ⟨c, rfl, hc, hb⟩
  obtain rfl : c = 0 := hc.2 ⟨H.out, HC.out⟩
  clear hc
  obtain ⟨hcell, hfr⟩ := bcell hb
  have hs := hb.size
  (try simp only [World.size_alloc] at hs)
  have hz0 : w.heap.size < w1.heap.size := by omega
  have hz1 : w.heap.size + 1 < w1.heap.size := by omega
  have hz2 : w.heap.size + 1 + 1 < w1.heap.size := by omega
  have hbel := (((((Below.refl w.heap.size w).alloc (by go_size) _).alloc (by go_size) _).alloc (by go_size) _).trans (hb.mono (by go_size)))
  go_wp2_with (go_at_call 16; refine (within_any _ _ _ _).mono ?_; rintro e w' ⟨rfl, rfl⟩)
  have c0 : w1.cell? ⟨w.heap.size, 0, none⟩ = some (.slice A n cap) := by simp [hcell, go_sem]
  have c1 : w1.cell? ⟨w.heap.size, 1, none⟩ = some (.int .i64 inc) := by simp [hcell, go_sem]
  have c2 : w1.cell? ⟨w.heap.size, 2, none⟩ = some (.int .i64 delay) := by simp [hcell, go_sem]
  have c3 : w1.cell? ⟨w.heap.size + 1, 0, none⟩ = some (.int .i64 l0) := by simp [hcell, go_sem]
  have c4 : w1.cell? ⟨w.heap.size + 1, 1, none⟩ = some (.int .i64 l1) := by simp [hcell, go_sem]
  have c5 : w1.cell? ⟨w.heap.size + 1, 2, none⟩ = some (.int .i64 m0) := by simp [hcell, go_sem]
  have c6 : w1.cell? ⟨w.heap.size + 1, 3, none⟩ = some (.int .i64 m1) := by simp [hcell, go_sem]
  have c7 : w1.cell? ⟨w.heap.size + 1, 4, none⟩ = some (.int .i64 p0) := by simp [hcell, go_sem]
  have c8 : w1.cell? ⟨w.heap.size + 1, 5, none⟩ = some (.int .i64 p1) := by simp [hcell, go_sem]
  have c9 : w1.cell? ⟨w.heap.size + 1, 6, none⟩ = some (.int .i64 1) := by simp [hcell, go_sem]
  have c10 : w1.cell? ⟨w.heap.size + 1, 7, none⟩ = some (.int .i64 since) := by simp [hcell, go_sem]
  have c11 : w1.cell? ⟨w.heap.size + 1, 8, none⟩ = some (.bool st) := by simp [hcell, go_sem]
  have c12 : w1.cell? ⟨w.heap.size + 1, 9, none⟩ = some (.int .i64 fallen) := by simp [hcell, go_sem]
  have Hcell := Lib.hid hcell
  have Hfr := Lib.hid hfr
  clear hcell hfr
  go_region_held3 (fun w' => w'.cell? ⟨w.heap.size, 0, none⟩ = some (.slice A n cap) ∧ w'.cell? ⟨w.heap.size, 1, none⟩ = some (.int .i64 inc) ∧ w'.cell? ⟨w.heap.size, 2, none⟩ = some (.int .i64 delay) ∧ w'.cell? ⟨w.heap.size + 1, 0, none⟩ = some (.int .i64 l0) ∧ w'.cell? ⟨w.heap.size + 1, 1, none⟩ = some (.int .i64 l1) ∧ w'.cell? ⟨w.heap.size + 1, 2, none⟩ = some (.int .i64 m0) ∧ w'.cell? ⟨w.heap.size + 1, 3, none⟩ = some (.int .i64 m1) ∧ w'.cell? ⟨w.heap.size + 1, 4, none⟩ = some (.int .i64 p0) ∧ w'.cell? ⟨w.heap.size + 1, 5, none⟩ = some (.int .i64 p1) ∧ w'.cell? ⟨w.heap.size + 1, 6, none⟩ = some (.int .i64 1) ∧ w'.cell? ⟨w.heap.size + 1, 7, none⟩ = some (.int .i64 since) ∧ w'.cell? ⟨w.heap.size + 1, 8, none⟩ = some (.bool st) ∧ w'.cell? ⟨w.heap.size + 1, 9, none⟩ = some (.int .i64 fallen)) (go_keep) (first | (go_at_call 17; refine (used_any A n cap inc delay l0 l1 m0 m1 p0 p1 1 since fallen st now _ (by omega) (by omega) (by omega) (by omega) (by omega) (by omega)).mono ?_; rintro e w' ⟨rfl, rfl⟩))
  generalize hW2 : ((w1.alloc (.cells #[.slice A n cap, .int .i64 inc, .int .i64 delay] 24)).alloc (.cells #[.int .i64 l0, .int .i64 l1, .int .i64 m0, .int .i64 m1, .int .i64 p0, .int .i64 p1, .int .i64 1, .int .i64 since, .bool st, .int .i64 fallen] 27)).drew = w2
  have hb2 : Below (((w.alloc (.cells #[.slice A n cap, .int .i64 inc, .int .i64 delay] 24)).alloc (.cells #[.int .i64 l0, .int .i64 l1, .int .i64 m0, .int .i64 m1, .int .i64 p0, .int .i64 p1, .int .i64 1, .int .i64 since, .bool st, .int .i64 fallen] 27)).alloc (.cells #[.int .i64 0, .int .i64 0, .int .i64 0, .int .i64 0, .int .i64 0, .int .i64 0, .int .i64 0, .int .i64 0, .bool false, .int .i64 0] 27)).heap.size (((w.alloc (.cells #[.slice A n cap, .int .i64 inc, .int .i64 delay] 24)).alloc (.cells #[.int .i64 l0, .int .i64 l1, .int .i64 m0, .int .i64 m1, .int .i64 p0, .int .i64 p1, .int .i64 1, .int .i64 since, .bool st, .int .i64 fallen] 27)).alloc (.cells #[.int .i64 0, .int .i64 0, .int .i64 0, .int .i64 0, .int .i64 0, .int .i64 0, .int .i64 0, .int .i64 0, .bool false, .int .i64 0] 27)) w2 := by rw [← hW2]; exact ((hb.alloc (by go_size) _).alloc (by go_size) _).drew
  clear hW2 Hcell Hfr hbel hs hz0 hz1 hz2
  obtain ⟨hcell, hfr⟩ := bcell hb2
  have hs := hb2.size
  (try simp only [World.size_alloc] at hs)
  have hz0 : w.heap.size < w2.heap.size := by omega
  have hz1 : w.heap.size + 1 < w2.heap.size := by omega
  have hz2 : w.heap.size + 1 + 1 < w2.heap.size := by omega
  have hbel := (((((Below.refl w.heap.size w).alloc (by go_size) _).alloc (by go_size) _).alloc (by go_size) _).trans (hb2.mono (by go_size)))
  clear c0 c1 c2 c3 c4 c5 c6 c7 c8 c9 c10 c11 c12
  go_wp2
  refine bodyPost_ret (v := .tuple #[.agg #[.int .i64 l0, .int .i64 0, .int .i64 m0, .int .i64 m1, .int .i64 p0, .int .i64 p1, .int .i64 1, .int .i64 since, .bool st, .int .i64 1], .int .i64 0]) (by simp [results, Try.results13, go_sem, hcell]) rfl ?_
  refine ⟨rfl, ?_⟩
  go_grown
end Go.Proofs.Ytpcllegmdioafaa
