/- The contract of clock.Valid. -/
import Derived.Test.YtpcllegmdioafaaClkCheck
import Derived.Deep.QuietTactic
import Derived.BigQuiet
import Derived.WalkSmall
namespace Go.Proofs.Ytpcllegmdioafaa
open Go.ChangeShapes Go.WideShapes Go.ChangeAt Go.RowKit
set_option linter.unusedVariables false

/-- a call that leaves the world alone, inside a region that draws. -/
theorem still {P : Program} {f : FuncId} {args : Array Value} {W : World} {v : Value} {Q : World → Prop} (h : Calls P f args W fun e w' => e = .returned v ∧ W = w') (hq : Q W) :
    Calls P f args W fun e w'' => e = .returned v ∧ Q w'' := h.mono fun _ _ ⟨he, hw⟩ => ⟨he, hw ▸ hq⟩

def ClkOk (n : Nat) (l0 l1 m0 m1 p0 p1 turn since fallen : Int) : Prop := (0 ≤ turn ∧ turn ≤ 1) ∧ ((-1) ≤ fallen ∧ fallen ≤ 1) ∧ (0 ≤ since ∧ since ≤ 100000000) ∧ (0 ≤ p0 ∧ p0 ≤ ((n : Int) - 1)) ∧ (0 ≤ m0 ∧ m0 ≤ 400) ∧ (0 ≤ l0 ∧ l0 ≤ 100000000000) ∧ (0 ≤ p1 ∧ p1 ≤ ((n : Int) - 1)) ∧ (0 ≤ m1 ∧ m1 ≤ 400) ∧ (0 ≤ l1 ∧ l1 ≤ 100000000000)

theorem PerAt.mono {w w' : World} {B B' : Nat} {A : Option Addr} {n : Nat} {ps : List (Int × Int)} (h : PerAt w B A n ps) (hB : B ≤ B') (hb : ∀ p : Addr, p.block < B → w'.cell? p = w.cell? p) : PerAt w' B' A n ps := by
  refine ⟨h.1, fun hn => ?_⟩
  obtain ⟨b, off, rfl, hlt, hc⟩ := h.2 hn
  exact ⟨b, off, rfl, by omega, fun k hk => ⟨(hb _ hlt).trans (hc k hk).1, (hb _ hlt).trans (hc k hk).2⟩⟩
theorem PerAt.alloc {w : World} {A : Option Addr} {n : Nat} {ps : List (Int × Int)} (h : PerAt w w.heap.size A n ps) (o : Obj) : PerAt (w.alloc o) (w.alloc o).heap.size A n ps :=
  h.mono (by simp) (fun p hp => World.cell?_alloc_lt w o p hp)
theorem PerAt.below {w w' : World} {A : Option Addr} {n : Nat} {ps : List (Int × Int)} (h : PerAt w w.heap.size A n ps) (hb : Below w.heap.size w w') : PerAt w' w'.heap.size A n ps :=
  h.mono hb.size (fun p hp => hb.cell hp)

set_option maxHeartbeats 1000000 in
theorem Valid_rule (A : Option Addr) (n cap : Nat) (inc delay : Int) (ps : List (Int × Int)) (l0 l1 m0 m1 p0 p1 turn since fallen : Int) (st : Bool) (w : World) (hn : n ≤ 9223372036854775807) (hp : PerAt w w.heap.size A n ps) (h : ¬ RuleOk n inc delay ps) :
    Calls Try.prog 19 #[.agg #[.slice A n cap, .int .i64 inc, .int .i64 delay], .agg #[.int .i64 l0, .int .i64 l1, .int .i64 m0, .int .i64 m1, .int .i64 p0, .int .i64 p1, .int .i64 turn, .int .i64 since, .bool st, .int .i64 fallen]] w (ChkPost (RuleOk n inc delay ps ∧ ClkOk n l0 l1 m0 m1 p0 p1 turn since fallen) w) := by
  have H := Lib.hid h
  clear h
  have hP := Lib.hid ((hp.alloc (.cells #[.slice A n cap, .int .i64 inc, .int .i64 delay] 24)).alloc (.cells #[.int .i64 l0, .int .i64 l1, .int .i64 m0, .int .i64 m1, .int .i64 p0, .int .i64 p1, .int .i64 turn, .int .i64 since, .bool st, .int .i64 fallen] 27))
  clear hp
  go_enter Try.func19, Try.ntmps19
  go_wp2_with fail
  refine (Check_any A n cap inc delay ps _ hn (hP.out)).mono ?_
  rintro e w1 ⟨c, rfl, hc, hb⟩
  have h1 : (c != 0) = true := by rw [bne_iff_ne]; exact fun h0 => H.out (hc.1 h0)
  clear hc
  go_wp2
  go_ret
  exact ⟨_, rfl, ⟨fun h => by simp [h] at h1, fun h => absurd h.1 H.out⟩, ((((Below.refl w.heap.size w).alloc (by go_size) _).alloc (by go_size) _).trans (hb.mono (by go_size)))⟩

set_option maxHeartbeats 1000000 in
theorem Valid_0 (A : Option Addr) (n cap : Nat) (inc delay : Int) (ps : List (Int × Int)) (l0 l1 m0 m1 p0 p1 turn since fallen : Int) (st : Bool) (w : World) (hn : n ≤ 9223372036854775807) (hp : PerAt w w.heap.size A n ps) (hr : RuleOk n inc delay ps) (e0 : witB turn 0 1 = false) :
    Calls Try.prog 19 #[.agg #[.slice A n cap, .int .i64 inc, .int .i64 delay], .agg #[.int .i64 l0, .int .i64 l1, .int .i64 m0, .int .i64 m1, .int .i64 p0, .int .i64 p1, .int .i64 turn, .int .i64 since, .bool st, .int .i64 fallen]] w (ChkPost (RuleOk n inc delay ps ∧ ClkOk n l0 l1 m0 m1 p0 p1 turn since fallen) w) := by
  have H := Lib.hid hr
  clear hr
  have hn5 : n ≤ 5 := H.out.1.2
  have hn1 : 1 ≤ n := H.out.1.1
  have HC : Hid (¬ ClkOk n l0 l1 m0 m1 p0 p1 turn since fallen) := Lib.hid (fun h => by have := witB_true (h.1); rw [e0] at this; cases this)
  have hP := Lib.hid ((hp.alloc (.cells #[.slice A n cap, .int .i64 inc, .int .i64 delay] 24)).alloc (.cells #[.int .i64 l0, .int .i64 l1, .int .i64 m0, .int .i64 m1, .int .i64 p0, .int .i64 p1, .int .i64 turn, .int .i64 since, .bool st, .int .i64 fallen] 27))
  clear hp
  go_enter Try.func19, Try.ntmps19
  go_wp2_with fail
  refine (Check_any A n cap inc delay ps _ hn (hP.out)).mono ?_
  rintro e w1 ⟨c, rfl, hc, hb⟩
  obtain rfl : c = 0 := hc.2 H.out
  clear hc
  obtain ⟨hcell, hfr⟩ := bcell hb
  have hs := hb.size
  (try simp only [World.size_alloc] at hs)
  go_wp2_with (go_at_call 16; refine (within_any _ _ _ _).mono ?_; rintro e w' ⟨rfl, rfl⟩)
  refine wp_loop_rounds 3 ?_
  rw [rounds_succ]
  go_wp2_with (go_at_call 16; refine (within_any _ _ _ _).mono ?_; rintro e w' ⟨rfl, rfl⟩)
  go_quiet ((go_at_call 16; exact still (within_any _ _ _ _) ⟨_, rfl⟩))
  go_wp2_with (go_at_call 16; refine (within_any _ _ _ _).mono ?_; rintro e w' ⟨rfl, rfl⟩)
  rw [rounds_succ]
  go_wp2_with (go_at_call 16; refine (within_any _ _ _ _).mono ?_; rintro e w' ⟨rfl, rfl⟩)
  go_quiet ((go_at_call 16; exact still (within_any _ _ _ _) ⟨_, rfl⟩))
  go_wp2_with (go_at_call 16; refine (within_any _ _ _ _).mono ?_; rintro e w' ⟨rfl, rfl⟩)
  rw [rounds_succ]
  go_wp2_with (go_at_call 16; refine (within_any _ _ _ _).mono ?_; rintro e w' ⟨rfl, rfl⟩)
  go_ret
  exact ⟨_, rfl, ⟨(fun h => by cases h), fun h => absurd h.2 HC.out⟩, below_drewN ((((Below.refl w.heap.size w).alloc (by go_size) _).alloc (by go_size) _).trans (hb.mono (by go_size))) _⟩

set_option maxHeartbeats 1000000 in
theorem Valid_1 (A : Option Addr) (n cap : Nat) (inc delay : Int) (ps : List (Int × Int)) (l0 l1 m0 m1 p0 p1 turn since fallen : Int) (st : Bool) (w : World) (hn : n ≤ 9223372036854775807) (hp : PerAt w w.heap.size A n ps) (hr : RuleOk n inc delay ps) (e0 : witB turn 0 1 = true) (e1 : witB fallen (-1) 1 = false) :
    Calls Try.prog 19 #[.agg #[.slice A n cap, .int .i64 inc, .int .i64 delay], .agg #[.int .i64 l0, .int .i64 l1, .int .i64 m0, .int .i64 m1, .int .i64 p0, .int .i64 p1, .int .i64 turn, .int .i64 since, .bool st, .int .i64 fallen]] w (ChkPost (RuleOk n inc delay ps ∧ ClkOk n l0 l1 m0 m1 p0 p1 turn since fallen) w) := by
  have H := Lib.hid hr
  clear hr
  have hn5 : n ≤ 5 := H.out.1.2
  have hn1 : 1 ≤ n := H.out.1.1
  have HC : Hid (¬ ClkOk n l0 l1 m0 m1 p0 p1 turn since fallen) := Lib.hid (fun h => by have := witB_true (h.2.1); rw [e1] at this; cases this)
  have hP := Lib.hid ((hp.alloc (.cells #[.slice A n cap, .int .i64 inc, .int .i64 delay] 24)).alloc (.cells #[.int .i64 l0, .int .i64 l1, .int .i64 m0, .int .i64 m1, .int .i64 p0, .int .i64 p1, .int .i64 turn, .int .i64 since, .bool st, .int .i64 fallen] 27))
  clear hp
  go_enter Try.func19, Try.ntmps19
  go_wp2_with fail
  refine (Check_any A n cap inc delay ps _ hn (hP.out)).mono ?_
  rintro e w1 ⟨c, rfl, hc, hb⟩
  obtain rfl : c = 0 := hc.2 H.out
  clear hc
  obtain ⟨hcell, hfr⟩ := bcell hb
  have hs := hb.size
  (try simp only [World.size_alloc] at hs)
  go_wp2_with (go_at_call 16; refine (within_any _ _ _ _).mono ?_; rintro e w' ⟨rfl, rfl⟩)
  refine wp_loop_rounds 3 ?_
  rw [rounds_succ]
  go_wp2_with (go_at_call 16; refine (within_any _ _ _ _).mono ?_; rintro e w' ⟨rfl, rfl⟩)
  go_quiet ((go_at_call 16; exact still (within_any _ _ _ _) ⟨_, rfl⟩))
  go_wp2_with (go_at_call 16; refine (within_any _ _ _ _).mono ?_; rintro e w' ⟨rfl, rfl⟩)
  rw [rounds_succ]
  go_wp2_with (go_at_call 16; refine (within_any _ _ _ _).mono ?_; rintro e w' ⟨rfl, rfl⟩)
  go_quiet ((go_at_call 16; exact still (within_any _ _ _ _) ⟨_, rfl⟩))
  go_wp2_with (go_at_call 16; refine (within_any _ _ _ _).mono ?_; rintro e w' ⟨rfl, rfl⟩)
  rw [rounds_succ]
  go_wp2_with (go_at_call 16; refine (within_any _ _ _ _).mono ?_; rintro e w' ⟨rfl, rfl⟩)
  go_ret
  exact ⟨_, rfl, ⟨(fun h => by cases h), fun h => absurd h.2 HC.out⟩, below_drewN ((((Below.refl w.heap.size w).alloc (by go_size) _).alloc (by go_size) _).trans (hb.mono (by go_size))) _⟩

set_option maxHeartbeats 1000000 in
theorem Valid_2 (A : Option Addr) (n cap : Nat) (inc delay : Int) (ps : List (Int × Int)) (l0 l1 m0 m1 p0 p1 turn since fallen : Int) (st : Bool) (w : World) (hn : n ≤ 9223372036854775807) (hp : PerAt w w.heap.size A n ps) (hr : RuleOk n inc delay ps) (e0 : witB turn 0 1 = true) (e1 : witB fallen (-1) 1 = true) (e2 : witB since 0 100000000 = false) :
    Calls Try.prog 19 #[.agg #[.slice A n cap, .int .i64 inc, .int .i64 delay], .agg #[.int .i64 l0, .int .i64 l1, .int .i64 m0, .int .i64 m1, .int .i64 p0, .int .i64 p1, .int .i64 turn, .int .i64 since, .bool st, .int .i64 fallen]] w (ChkPost (RuleOk n inc delay ps ∧ ClkOk n l0 l1 m0 m1 p0 p1 turn since fallen) w) := by
  have H := Lib.hid hr
  clear hr
  have hn5 : n ≤ 5 := H.out.1.2
  have hn1 : 1 ≤ n := H.out.1.1
  have HC : Hid (¬ ClkOk n l0 l1 m0 m1 p0 p1 turn since fallen) := Lib.hid (fun h => by have := witB_true (h.2.2.1); rw [e2] at this; cases this)
  have hP := Lib.hid ((hp.alloc (.cells #[.slice A n cap, .int .i64 inc, .int .i64 delay] 24)).alloc (.cells #[.int .i64 l0, .int .i64 l1, .int .i64 m0, .int .i64 m1, .int .i64 p0, .int .i64 p1, .int .i64 turn, .int .i64 since, .bool st, .int .i64 fallen] 27))
  clear hp
  go_enter Try.func19, Try.ntmps19
  go_wp2_with fail
  refine (Check_any A n cap inc delay ps _ hn (hP.out)).mono ?_
  rintro e w1 ⟨c, rfl, hc, hb⟩
  obtain rfl : c = 0 := hc.2 H.out
  clear hc
  obtain ⟨hcell, hfr⟩ := bcell hb
  have hs := hb.size
  (try simp only [World.size_alloc] at hs)
  go_wp2_with (go_at_call 16; refine (within_any _ _ _ _).mono ?_; rintro e w' ⟨rfl, rfl⟩)
  refine wp_loop_rounds 3 ?_
  rw [rounds_succ]
  go_wp2_with (go_at_call 16; refine (within_any _ _ _ _).mono ?_; rintro e w' ⟨rfl, rfl⟩)
  go_quiet ((go_at_call 16; exact still (within_any _ _ _ _) ⟨_, rfl⟩))
  go_wp2_with (go_at_call 16; refine (within_any _ _ _ _).mono ?_; rintro e w' ⟨rfl, rfl⟩)
  rw [rounds_succ]
  go_wp2_with (go_at_call 16; refine (within_any _ _ _ _).mono ?_; rintro e w' ⟨rfl, rfl⟩)
  go_quiet ((go_at_call 16; exact still (within_any _ _ _ _) ⟨_, rfl⟩))
  go_wp2_with (go_at_call 16; refine (within_any _ _ _ _).mono ?_; rintro e w' ⟨rfl, rfl⟩)
  rw [rounds_succ]
  go_wp2_with (go_at_call 16; refine (within_any _ _ _ _).mono ?_; rintro e w' ⟨rfl, rfl⟩)
  go_ret
  exact ⟨_, rfl, ⟨(fun h => by cases h), fun h => absurd h.2 HC.out⟩, below_drewN ((((Below.refl w.heap.size w).alloc (by go_size) _).alloc (by go_size) _).trans (hb.mono (by go_size))) _⟩

set_option maxHeartbeats 1000000 in
theorem Valid_3 (A : Option Addr) (n cap : Nat) (inc delay : Int) (ps : List (Int × Int)) (l0 l1 m0 m1 p0 p1 turn since fallen : Int) (st : Bool) (w : World) (hn : n ≤ 9223372036854775807) (hp : PerAt w w.heap.size A n ps) (hr : RuleOk n inc delay ps) (e0 : witB turn 0 1 = true) (e1 : witB fallen (-1) 1 = true) (e2 : witB since 0 100000000 = true) (e3 : witB p0 0 ((n : Int) - 1) = false) :
    Calls Try.prog 19 #[.agg #[.slice A n cap, .int .i64 inc, .int .i64 delay], .agg #[.int .i64 l0, .int .i64 l1, .int .i64 m0, .int .i64 m1, .int .i64 p0, .int .i64 p1, .int .i64 turn, .int .i64 since, .bool st, .int .i64 fallen]] w (ChkPost (RuleOk n inc delay ps ∧ ClkOk n l0 l1 m0 m1 p0 p1 turn since fallen) w) := by
  have H := Lib.hid hr
  clear hr
  have hn5 : n ≤ 5 := H.out.1.2
  have hn1 : 1 ≤ n := H.out.1.1
  have HC : Hid (¬ ClkOk n l0 l1 m0 m1 p0 p1 turn since fallen) := Lib.hid (fun h => by have := witB_true (h.2.2.2.1); rw [e3] at this; cases this)
  have hP := Lib.hid ((hp.alloc (.cells #[.slice A n cap, .int .i64 inc, .int .i64 delay] 24)).alloc (.cells #[.int .i64 l0, .int .i64 l1, .int .i64 m0, .int .i64 m1, .int .i64 p0, .int .i64 p1, .int .i64 turn, .int .i64 since, .bool st, .int .i64 fallen] 27))
  clear hp
  go_enter Try.func19, Try.ntmps19
  go_wp2_with fail
  refine (Check_any A n cap inc delay ps _ hn (hP.out)).mono ?_
  rintro e w1 ⟨c, rfl, hc, hb⟩
  obtain rfl : c = 0 := hc.2 H.out
  clear hc
  obtain ⟨hcell, hfr⟩ := bcell hb
  have hs := hb.size
  (try simp only [World.size_alloc] at hs)
  go_wp2_with (go_at_call 16; refine (within_any _ _ _ _).mono ?_; rintro e w' ⟨rfl, rfl⟩)
  refine wp_loop_rounds 3 ?_
  rw [rounds_succ]
  go_wp2_with (go_at_call 16; refine (within_any _ _ _ _).mono ?_; rintro e w' ⟨rfl, rfl⟩)
  go_quiet ((go_at_call 16; exact still (within_any _ _ _ _) ⟨_, rfl⟩))
  go_wp2_with (go_at_call 16; refine (within_any _ _ _ _).mono ?_; rintro e w' ⟨rfl, rfl⟩)
  rw [rounds_succ]
  go_wp2_with (go_at_call 16; refine (within_any _ _ _ _).mono ?_; rintro e w' ⟨rfl, rfl⟩)
  go_quiet ((go_at_call 16; exact still (within_any _ _ _ _) ⟨_, rfl⟩))
  go_wp2_with (go_at_call 16; refine (within_any _ _ _ _).mono ?_; rintro e w' ⟨rfl, rfl⟩)
  rw [rounds_succ]
  go_wp2_with (go_at_call 16; refine (within_any _ _ _ _).mono ?_; rintro e w' ⟨rfl, rfl⟩)
  go_ret
  exact ⟨_, rfl, ⟨(fun h => by cases h), fun h => absurd h.2 HC.out⟩, below_drewN ((((Below.refl w.heap.size w).alloc (by go_size) _).alloc (by go_size) _).trans (hb.mono (by go_size))) _⟩

set_option maxHeartbeats 1000000 in
theorem Valid_4 (A : Option Addr) (n cap : Nat) (inc delay : Int) (ps : List (Int × Int)) (l0 l1 m0 m1 p0 p1 turn since fallen : Int) (st : Bool) (w : World) (hn : n ≤ 9223372036854775807) (hp : PerAt w w.heap.size A n ps) (hr : RuleOk n inc delay ps) (e0 : witB turn 0 1 = true) (e1 : witB fallen (-1) 1 = true) (e2 : witB since 0 100000000 = true) (e3 : witB p0 0 ((n : Int) - 1) = true) (e4 : witB m0 0 400 = false) :
    Calls Try.prog 19 #[.agg #[.slice A n cap, .int .i64 inc, .int .i64 delay], .agg #[.int .i64 l0, .int .i64 l1, .int .i64 m0, .int .i64 m1, .int .i64 p0, .int .i64 p1, .int .i64 turn, .int .i64 since, .bool st, .int .i64 fallen]] w (ChkPost (RuleOk n inc delay ps ∧ ClkOk n l0 l1 m0 m1 p0 p1 turn since fallen) w) := by
  have H := Lib.hid hr
  clear hr
  have hn5 : n ≤ 5 := H.out.1.2
  have hn1 : 1 ≤ n := H.out.1.1
  have HC : Hid (¬ ClkOk n l0 l1 m0 m1 p0 p1 turn since fallen) := Lib.hid (fun h => by have := witB_true (h.2.2.2.2.1); rw [e4] at this; cases this)
  have hP := Lib.hid ((hp.alloc (.cells #[.slice A n cap, .int .i64 inc, .int .i64 delay] 24)).alloc (.cells #[.int .i64 l0, .int .i64 l1, .int .i64 m0, .int .i64 m1, .int .i64 p0, .int .i64 p1, .int .i64 turn, .int .i64 since, .bool st, .int .i64 fallen] 27))
  clear hp
  go_enter Try.func19, Try.ntmps19
  go_wp2_with fail
  refine (Check_any A n cap inc delay ps _ hn (hP.out)).mono ?_
  rintro e w1 ⟨c, rfl, hc, hb⟩
  obtain rfl : c = 0 := hc.2 H.out
  clear hc
  obtain ⟨hcell, hfr⟩ := bcell hb
  have hs := hb.size
  (try simp only [World.size_alloc] at hs)
  go_wp2_with (go_at_call 16; refine (within_any _ _ _ _).mono ?_; rintro e w' ⟨rfl, rfl⟩)
  refine wp_loop_rounds 3 ?_
  rw [rounds_succ]
  go_wp2_with (go_at_call 16; refine (within_any _ _ _ _).mono ?_; rintro e w' ⟨rfl, rfl⟩)
  go_quiet ((go_at_call 16; exact still (within_any _ _ _ _) ⟨_, rfl⟩))
  go_wp2_with (go_at_call 16; refine (within_any _ _ _ _).mono ?_; rintro e w' ⟨rfl, rfl⟩)
  rw [rounds_succ]
  go_wp2_with (go_at_call 16; refine (within_any _ _ _ _).mono ?_; rintro e w' ⟨rfl, rfl⟩)
  go_quiet ((go_at_call 16; exact still (within_any _ _ _ _) ⟨_, rfl⟩))
  go_wp2_with (go_at_call 16; refine (within_any _ _ _ _).mono ?_; rintro e w' ⟨rfl, rfl⟩)
  rw [rounds_succ]
  go_wp2_with (go_at_call 16; refine (within_any _ _ _ _).mono ?_; rintro e w' ⟨rfl, rfl⟩)
  go_ret
  exact ⟨_, rfl, ⟨(fun h => by cases h), fun h => absurd h.2 HC.out⟩, below_drewN ((((Below.refl w.heap.size w).alloc (by go_size) _).alloc (by go_size) _).trans (hb.mono (by go_size))) _⟩

set_option maxHeartbeats 1000000 in
theorem Valid_5 (A : Option Addr) (n cap : Nat) (inc delay : Int) (ps : List (Int × Int)) (l0 l1 m0 m1 p0 p1 turn since fallen : Int) (st : Bool) (w : World) (hn : n ≤ 9223372036854775807) (hp : PerAt w w.heap.size A n ps) (hr : RuleOk n inc delay ps) (e0 : witB turn 0 1 = true) (e1 : witB fallen (-1) 1 = true) (e2 : witB since 0 100000000 = true) (e3 : witB p0 0 ((n : Int) - 1) = true) (e4 : witB m0 0 400 = true) (e5 : witB l0 0 100000000000 = false) :
    Calls Try.prog 19 #[.agg #[.slice A n cap, .int .i64 inc, .int .i64 delay], .agg #[.int .i64 l0, .int .i64 l1, .int .i64 m0, .int .i64 m1, .int .i64 p0, .int .i64 p1, .int .i64 turn, .int .i64 since, .bool st, .int .i64 fallen]] w (ChkPost (RuleOk n inc delay ps ∧ ClkOk n l0 l1 m0 m1 p0 p1 turn since fallen) w) := by
  have H := Lib.hid hr
  clear hr
  have hn5 : n ≤ 5 := H.out.1.2
  have hn1 : 1 ≤ n := H.out.1.1
  have HC : Hid (¬ ClkOk n l0 l1 m0 m1 p0 p1 turn since fallen) := Lib.hid (fun h => by have := witB_true (h.2.2.2.2.2.1); rw [e5] at this; cases this)
  have hP := Lib.hid ((hp.alloc (.cells #[.slice A n cap, .int .i64 inc, .int .i64 delay] 24)).alloc (.cells #[.int .i64 l0, .int .i64 l1, .int .i64 m0, .int .i64 m1, .int .i64 p0, .int .i64 p1, .int .i64 turn, .int .i64 since, .bool st, .int .i64 fallen] 27))
  clear hp
  go_enter Try.func19, Try.ntmps19
  go_wp2_with fail
  refine (Check_any A n cap inc delay ps _ hn (hP.out)).mono ?_
  rintro e w1 ⟨c, rfl, hc, hb⟩
  obtain rfl : c = 0 := hc.2 H.out
  clear hc
  obtain ⟨hcell, hfr⟩ := bcell hb
  have hs := hb.size
  (try simp only [World.size_alloc] at hs)
  go_wp2_with (go_at_call 16; refine (within_any _ _ _ _).mono ?_; rintro e w' ⟨rfl, rfl⟩)
  refine wp_loop_rounds 3 ?_
  rw [rounds_succ]
  go_wp2_with (go_at_call 16; refine (within_any _ _ _ _).mono ?_; rintro e w' ⟨rfl, rfl⟩)
  go_quiet ((go_at_call 16; exact still (within_any _ _ _ _) ⟨_, rfl⟩))
  go_wp2_with (go_at_call 16; refine (within_any _ _ _ _).mono ?_; rintro e w' ⟨rfl, rfl⟩)
  rw [rounds_succ]
  go_wp2_with (go_at_call 16; refine (within_any _ _ _ _).mono ?_; rintro e w' ⟨rfl, rfl⟩)
  go_quiet ((go_at_call 16; exact still (within_any _ _ _ _) ⟨_, rfl⟩))
  go_wp2_with (go_at_call 16; refine (within_any _ _ _ _).mono ?_; rintro e w' ⟨rfl, rfl⟩)
  rw [rounds_succ]
  go_wp2_with (go_at_call 16; refine (within_any _ _ _ _).mono ?_; rintro e w' ⟨rfl, rfl⟩)
  go_ret
  exact ⟨_, rfl, ⟨(fun h => by cases h), fun h => absurd h.2 HC.out⟩, below_drewN ((((Below.refl w.heap.size w).alloc (by go_size) _).alloc (by go_size) _).trans (hb.mono (by go_size))) _⟩

set_option maxHeartbeats 1000000 in
theorem Valid_6 (A : Option Addr) (n cap : Nat) (inc delay : Int) (ps : List (Int × Int)) (l0 l1 m0 m1 p0 p1 turn since fallen : Int) (st : Bool) (w : World) (hn : n ≤ 9223372036854775807) (hp : PerAt w w.heap.size A n ps) (hr : RuleOk n inc delay ps) (e0 : witB turn 0 1 = true) (e1 : witB fallen (-1) 1 = true) (e2 : witB since 0 100000000 = true) (e3 : witB p0 0 ((n : Int) - 1) = true) (e4 : witB m0 0 400 = true) (e5 : witB l0 0 100000000000 = true) (e6 : witB p1 0 ((n : Int) - 1) = false) :
    Calls Try.prog 19 #[.agg #[.slice A n cap, .int .i64 inc, .int .i64 delay], .agg #[.int .i64 l0, .int .i64 l1, .int .i64 m0, .int .i64 m1, .int .i64 p0, .int .i64 p1, .int .i64 turn, .int .i64 since, .bool st, .int .i64 fallen]] w (ChkPost (RuleOk n inc delay ps ∧ ClkOk n l0 l1 m0 m1 p0 p1 turn since fallen) w) := by
  have H := Lib.hid hr
  clear hr
  have hn5 : n ≤ 5 := H.out.1.2
  have hn1 : 1 ≤ n := H.out.1.1
  have HC : Hid (¬ ClkOk n l0 l1 m0 m1 p0 p1 turn since fallen) := Lib.hid (fun h => by have := witB_true (h.2.2.2.2.2.2.1); rw [e6] at this; cases this)
  have hP := Lib.hid ((hp.alloc (.cells #[.slice A n cap, .int .i64 inc, .int .i64 delay] 24)).alloc (.cells #[.int .i64 l0, .int .i64 l1, .int .i64 m0, .int .i64 m1, .int .i64 p0, .int .i64 p1, .int .i64 turn, .int .i64 since, .bool st, .int .i64 fallen] 27))
  clear hp
  go_enter Try.func19, Try.ntmps19
  go_wp2_with fail
  refine (Check_any A n cap inc delay ps _ hn (hP.out)).mono ?_
  rintro e w1 ⟨c, rfl, hc, hb⟩
  obtain rfl : c = 0 := hc.2 H.out
  clear hc
  obtain ⟨hcell, hfr⟩ := bcell hb
  have hs := hb.size
  (try simp only [World.size_alloc] at hs)
  go_wp2_with (go_at_call 16; refine (within_any _ _ _ _).mono ?_; rintro e w' ⟨rfl, rfl⟩)
  refine wp_loop_rounds 3 ?_
  rw [rounds_succ]
  go_wp2_with (go_at_call 16; refine (within_any _ _ _ _).mono ?_; rintro e w' ⟨rfl, rfl⟩)
  go_quiet ((go_at_call 16; exact still (within_any _ _ _ _) ⟨_, rfl⟩))
  go_wp2_with (go_at_call 16; refine (within_any _ _ _ _).mono ?_; rintro e w' ⟨rfl, rfl⟩)
  rw [rounds_succ]
  go_wp2_with (go_at_call 16; refine (within_any _ _ _ _).mono ?_; rintro e w' ⟨rfl, rfl⟩)
  go_quiet ((go_at_call 16; exact still (within_any _ _ _ _) ⟨_, rfl⟩))
  go_wp2_with (go_at_call 16; refine (within_any _ _ _ _).mono ?_; rintro e w' ⟨rfl, rfl⟩)
  rw [rounds_succ]
  go_wp2_with (go_at_call 16; refine (within_any _ _ _ _).mono ?_; rintro e w' ⟨rfl, rfl⟩)
  go_ret
  exact ⟨_, rfl, ⟨(fun h => by cases h), fun h => absurd h.2 HC.out⟩, below_drewN ((((Below.refl w.heap.size w).alloc (by go_size) _).alloc (by go_size) _).trans (hb.mono (by go_size))) _⟩

set_option maxHeartbeats 1000000 in
theorem Valid_7 (A : Option Addr) (n cap : Nat) (inc delay : Int) (ps : List (Int × Int)) (l0 l1 m0 m1 p0 p1 turn since fallen : Int) (st : Bool) (w : World) (hn : n ≤ 9223372036854775807) (hp : PerAt w w.heap.size A n ps) (hr : RuleOk n inc delay ps) (e0 : witB turn 0 1 = true) (e1 : witB fallen (-1) 1 = true) (e2 : witB since 0 100000000 = true) (e3 : witB p0 0 ((n : Int) - 1) = true) (e4 : witB m0 0 400 = true) (e5 : witB l0 0 100000000000 = true) (e6 : witB p1 0 ((n : Int) - 1) = true) (e7 : witB m1 0 400 = false) :
    Calls Try.prog 19 #[.agg #[.slice A n cap, .int .i64 inc, .int .i64 delay], .agg #[.int .i64 l0, .int .i64 l1, .int .i64 m0, .int .i64 m1, .int .i64 p0, .int .i64 p1, .int .i64 turn, .int .i64 since, .bool st, .int .i64 fallen]] w (ChkPost (RuleOk n inc delay ps ∧ ClkOk n l0 l1 m0 m1 p0 p1 turn since fallen) w) := by
  have H := Lib.hid hr
  clear hr
  have hn5 : n ≤ 5 := H.out.1.2
  have hn1 : 1 ≤ n := H.out.1.1
  have HC : Hid (¬ ClkOk n l0 l1 m0 m1 p0 p1 turn since fallen) := Lib.hid (fun h => by have := witB_true (h.2.2.2.2.2.2.2.1); rw [e7] at this; cases this)
  have hP := Lib.hid ((hp.alloc (.cells #[.slice A n cap, .int .i64 inc, .int .i64 delay] 24)).alloc (.cells #[.int .i64 l0, .int .i64 l1, .int .i64 m0, .int .i64 m1, .int .i64 p0, .int .i64 p1, .int .i64 turn, .int .i64 since, .bool st, .int .i64 fallen] 27))
  clear hp
  go_enter Try.func19, Try.ntmps19
  go_wp2_with fail
  refine (Check_any A n cap inc delay ps _ hn (hP.out)).mono ?_
  rintro e w1 ⟨c, rfl, hc, hb⟩
  obtain rfl : c = 0 := hc.2 H.out
  clear hc
  obtain ⟨hcell, hfr⟩ := bcell hb
  have hs := hb.size
  (try simp only [World.size_alloc] at hs)
  go_wp2_with (go_at_call 16; refine (within_any _ _ _ _).mono ?_; rintro e w' ⟨rfl, rfl⟩)
  refine wp_loop_rounds 3 ?_
  rw [rounds_succ]
  go_wp2_with (go_at_call 16; refine (within_any _ _ _ _).mono ?_; rintro e w' ⟨rfl, rfl⟩)
  go_quiet ((go_at_call 16; exact still (within_any _ _ _ _) ⟨_, rfl⟩))
  go_wp2_with (go_at_call 16; refine (within_any _ _ _ _).mono ?_; rintro e w' ⟨rfl, rfl⟩)
  rw [rounds_succ]
  go_wp2_with (go_at_call 16; refine (within_any _ _ _ _).mono ?_; rintro e w' ⟨rfl, rfl⟩)
  go_quiet ((go_at_call 16; exact still (within_any _ _ _ _) ⟨_, rfl⟩))
  go_wp2_with (go_at_call 16; refine (within_any _ _ _ _).mono ?_; rintro e w' ⟨rfl, rfl⟩)
  rw [rounds_succ]
  go_wp2_with (go_at_call 16; refine (within_any _ _ _ _).mono ?_; rintro e w' ⟨rfl, rfl⟩)
  go_ret
  exact ⟨_, rfl, ⟨(fun h => by cases h), fun h => absurd h.2 HC.out⟩, below_drewN ((((Below.refl w.heap.size w).alloc (by go_size) _).alloc (by go_size) _).trans (hb.mono (by go_size))) _⟩

set_option maxHeartbeats 1000000 in
theorem Valid_8 (A : Option Addr) (n cap : Nat) (inc delay : Int) (ps : List (Int × Int)) (l0 l1 m0 m1 p0 p1 turn since fallen : Int) (st : Bool) (w : World) (hn : n ≤ 9223372036854775807) (hp : PerAt w w.heap.size A n ps) (hr : RuleOk n inc delay ps) (e0 : witB turn 0 1 = true) (e1 : witB fallen (-1) 1 = true) (e2 : witB since 0 100000000 = true) (e3 : witB p0 0 ((n : Int) - 1) = true) (e4 : witB m0 0 400 = true) (e5 : witB l0 0 100000000000 = true) (e6 : witB p1 0 ((n : Int) - 1) = true) (e7 : witB m1 0 400 = true) (e8 : witB l1 0 100000000000 = false) :
    Calls Try.prog 19 #[.agg #[.slice A n cap, .int .i64 inc, .int .i64 delay], .agg #[.int .i64 l0, .int .i64 l1, .int .i64 m0, .int .i64 m1, .int .i64 p0, .int .i64 p1, .int .i64 turn, .int .i64 since, .bool st, .int .i64 fallen]] w (ChkPost (RuleOk n inc delay ps ∧ ClkOk n l0 l1 m0 m1 p0 p1 turn since fallen) w) := by
  have H := Lib.hid hr
  clear hr
  have hn5 : n ≤ 5 := H.out.1.2
  have hn1 : 1 ≤ n := H.out.1.1
  have HC : Hid (¬ ClkOk n l0 l1 m0 m1 p0 p1 turn since fallen) := Lib.hid (fun h => by have := witB_true (h.2.2.2.2.2.2.2.2); rw [e8] at this; cases this)
  have hP := Lib.hid ((hp.alloc (.cells #[.slice A n cap, .int .i64 inc, .int .i64 delay] 24)).alloc (.cells #[.int .i64 l0, .int .i64 l1, .int .i64 m0, .int .i64 m1, .int .i64 p0, .int .i64 p1, .int .i64 turn, .int .i64 since, .bool st, .int .i64 fallen] 27))
  clear hp
  go_enter Try.func19, Try.ntmps19
  go_wp2_with fail
  refine (Check_any A n cap inc delay ps _ hn (hP.out)).mono ?_
  rintro e w1 ⟨c, rfl, hc, hb⟩
  obtain rfl : c = 0 := hc.2 H.out
  clear hc
  obtain ⟨hcell, hfr⟩ := bcell hb
  have hs := hb.size
  (try simp only [World.size_alloc] at hs)
  go_wp2_with (go_at_call 16; refine (within_any _ _ _ _).mono ?_; rintro e w' ⟨rfl, rfl⟩)
  refine wp_loop_rounds 3 ?_
  rw [rounds_succ]
  go_wp2_with (go_at_call 16; refine (within_any _ _ _ _).mono ?_; rintro e w' ⟨rfl, rfl⟩)
  go_quiet ((go_at_call 16; exact still (within_any _ _ _ _) ⟨_, rfl⟩))
  go_wp2_with (go_at_call 16; refine (within_any _ _ _ _).mono ?_; rintro e w' ⟨rfl, rfl⟩)
  rw [rounds_succ]
  go_wp2_with (go_at_call 16; refine (within_any _ _ _ _).mono ?_; rintro e w' ⟨rfl, rfl⟩)
  go_quiet ((go_at_call 16; exact still (within_any _ _ _ _) ⟨_, rfl⟩))
  go_wp2_with (go_at_call 16; refine (within_any _ _ _ _).mono ?_; rintro e w' ⟨rfl, rfl⟩)
  rw [rounds_succ]
  go_wp2_with (go_at_call 16; refine (within_any _ _ _ _).mono ?_; rintro e w' ⟨rfl, rfl⟩)
  go_ret
  exact ⟨_, rfl, ⟨(fun h => by cases h), fun h => absurd h.2 HC.out⟩, below_drewN ((((Below.refl w.heap.size w).alloc (by go_size) _).alloc (by go_size) _).trans (hb.mono (by go_size))) _⟩

set_option maxHeartbeats 1000000 in
theorem Valid_9 (A : Option Addr) (n cap : Nat) (inc delay : Int) (ps : List (Int × Int)) (l0 l1 m0 m1 p0 p1 turn since fallen : Int) (st : Bool) (w : World) (hn : n ≤ 9223372036854775807) (hp : PerAt w w.heap.size A n ps) (hr : RuleOk n inc delay ps) (e0 : witB turn 0 1 = true) (e1 : witB fallen (-1) 1 = true) (e2 : witB since 0 100000000 = true) (e3 : witB p0 0 ((n : Int) - 1) = true) (e4 : witB m0 0 400 = true) (e5 : witB l0 0 100000000000 = true) (e6 : witB p1 0 ((n : Int) - 1) = true) (e7 : witB m1 0 400 = true) (e8 : witB l1 0 100000000000 = true) :
    Calls Try.prog 19 #[.agg #[.slice A n cap, .int .i64 inc, .int .i64 delay], .agg #[.int .i64 l0, .int .i64 l1, .int .i64 m0, .int .i64 m1, .int .i64 p0, .int .i64 p1, .int .i64 turn, .int .i64 since, .bool st, .int .i64 fallen]] w (ChkPost (RuleOk n inc delay ps ∧ ClkOk n l0 l1 m0 m1 p0 p1 turn since fallen) w) := by
  have H := Lib.hid hr
  clear hr
  have hn5 : n ≤ 5 := H.out.1.2
  have hn1 : 1 ≤ n := H.out.1.1
  have q0 := witB_iff.1 e0
  have q1 := witB_iff.1 e1
  have q2 := witB_iff.1 e2
  have q3 := witB_iff.1 e3
  have q4 := witB_iff.1 e4
  have q5 := witB_iff.1 e5
  have q6 := witB_iff.1 e6
  have q7 := witB_iff.1 e7
  have q8 := witB_iff.1 e8
  have HC : Hid (ClkOk n l0 l1 m0 m1 p0 p1 turn since fallen) := Lib.hid ⟨q0, q1, q2, q3, q4, q5, q6, q7, q8⟩
  clear q0
  clear q1
  clear q2
  clear q3
  clear q4
  clear q5
  clear q6
  clear q7
  clear q8
  have hP := Lib.hid ((hp.alloc (.cells #[.slice A n cap, .int .i64 inc, .int .i64 delay] 24)).alloc (.cells #[.int .i64 l0, .int .i64 l1, .int .i64 m0, .int .i64 m1, .int .i64 p0, .int .i64 p1, .int .i64 turn, .int .i64 since, .bool st, .int .i64 fallen] 27))
  clear hp
  go_enter Try.func19, Try.ntmps19
  go_wp2_with fail
  refine (Check_any A n cap inc delay ps _ hn (hP.out)).mono ?_
  rintro e w1 ⟨c, rfl, hc, hb⟩
  obtain rfl : c = 0 := hc.2 H.out
  clear hc
  obtain ⟨hcell, hfr⟩ := bcell hb
  have hs := hb.size
  (try simp only [World.size_alloc] at hs)
  go_wp2_with (go_at_call 16; refine (within_any _ _ _ _).mono ?_; rintro e w' ⟨rfl, rfl⟩)
  refine wp_loop_rounds 3 ?_
  rw [rounds_succ]
  go_wp2_with (go_at_call 16; refine (within_any _ _ _ _).mono ?_; rintro e w' ⟨rfl, rfl⟩)
  go_quiet ((go_at_call 16; exact still (within_any _ _ _ _) ⟨_, rfl⟩))
  go_wp2_with (go_at_call 16; refine (within_any _ _ _ _).mono ?_; rintro e w' ⟨rfl, rfl⟩)
  rw [rounds_succ]
  go_wp2_with (go_at_call 16; refine (within_any _ _ _ _).mono ?_; rintro e w' ⟨rfl, rfl⟩)
  go_quiet ((go_at_call 16; exact still (within_any _ _ _ _) ⟨_, rfl⟩))
  go_wp2_with (go_at_call 16; refine (within_any _ _ _ _).mono ?_; rintro e w' ⟨rfl, rfl⟩)
  rw [rounds_succ]
  go_wp2_with (go_at_call 16; refine (within_any _ _ _ _).mono ?_; rintro e w' ⟨rfl, rfl⟩)
  go_ret
  exact ⟨_, rfl, ⟨fun _ => ⟨H.out, HC.out⟩, fun _ => rfl⟩, below_drewN ((((Below.refl w.heap.size w).alloc (by go_size) _).alloc (by go_size) _).trans (hb.mono (by go_size))) _⟩

set_option maxHeartbeats 1000000 in
theorem Valid_any (A : Option Addr) (n cap : Nat) (inc delay : Int) (ps : List (Int × Int)) (l0 l1 m0 m1 p0 p1 turn since fallen : Int) (st : Bool) (w : World) (hn : n ≤ 9223372036854775807) (hp : PerAt w w.heap.size A n ps):
    Calls Try.prog 19 #[.agg #[.slice A n cap, .int .i64 inc, .int .i64 delay], .agg #[.int .i64 l0, .int .i64 l1, .int .i64 m0, .int .i64 m1, .int .i64 p0, .int .i64 p1, .int .i64 turn, .int .i64 since, .bool st, .int .i64 fallen]] w (ChkPost (RuleOk n inc delay ps ∧ ClkOk n l0 l1 m0 m1 p0 p1 turn since fallen) w) := by
  by_cases hr : RuleOk n inc delay ps
  · cases e0 : witB turn 0 1
    · exact Valid_0 A n cap inc delay ps l0 l1 m0 m1 p0 p1 turn since fallen st w hn hp hr e0
    · cases e1 : witB fallen (-1) 1
      · exact Valid_1 A n cap inc delay ps l0 l1 m0 m1 p0 p1 turn since fallen st w hn hp hr e0 e1
      · cases e2 : witB since 0 100000000
        · exact Valid_2 A n cap inc delay ps l0 l1 m0 m1 p0 p1 turn since fallen st w hn hp hr e0 e1 e2
        · cases e3 : witB p0 0 ((n : Int) - 1)
          · exact Valid_3 A n cap inc delay ps l0 l1 m0 m1 p0 p1 turn since fallen st w hn hp hr e0 e1 e2 e3
          · cases e4 : witB m0 0 400
            · exact Valid_4 A n cap inc delay ps l0 l1 m0 m1 p0 p1 turn since fallen st w hn hp hr e0 e1 e2 e3 e4
            · cases e5 : witB l0 0 100000000000
              · exact Valid_5 A n cap inc delay ps l0 l1 m0 m1 p0 p1 turn since fallen st w hn hp hr e0 e1 e2 e3 e4 e5
              · cases e6 : witB p1 0 ((n : Int) - 1)
                · exact Valid_6 A n cap inc delay ps l0 l1 m0 m1 p0 p1 turn since fallen st w hn hp hr e0 e1 e2 e3 e4 e5 e6
                · cases e7 : witB m1 0 400
                  · exact Valid_7 A n cap inc delay ps l0 l1 m0 m1 p0 p1 turn since fallen st w hn hp hr e0 e1 e2 e3 e4 e5 e6 e7
                  · cases e8 : witB l1 0 100000000000
                    · exact Valid_8 A n cap inc delay ps l0 l1 m0 m1 p0 p1 turn since fallen st w hn hp hr e0 e1 e2 e3 e4 e5 e6 e7 e8
                    · exact Valid_9 A n cap inc delay ps l0 l1 m0 m1 p0 p1 turn since fallen st w hn hp hr e0 e1 e2 e3 e4 e5 e6 e7 e8
  · exact Valid_rule A n cap inc delay ps l0 l1 m0 m1 p0 p1 turn since fallen st w hn hp hr
end Go.Proofs.Ytpcllegmdioafaa
