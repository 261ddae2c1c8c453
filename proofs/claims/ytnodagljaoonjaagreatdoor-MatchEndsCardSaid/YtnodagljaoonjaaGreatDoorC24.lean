/- clock.Check, Valid, Look. -/
import Derived.Test.YtnodagljaoonjaaGreatDoorRows
import Derived.Test.YtnodagljaoonjaaGreatDoorC23
import Derived.WalkKit
import Derived.ProofKit
import Derived.OpenShut
import Derived.LoopTactic
import Derived.Outline
import Derived.Lib.Hide
import Derived.Handy
import Derived.Deep.QuietTactic
import Derived.BigQuiet
import Derived.WalkSmall
import Derived.Deep.RegionHeld3
/- The contracts of clock.within and clock.Check. -/
namespace Go.Proofs.YtnodagljaoonjaaGreatDoor.clk
open Go.ChangeShapes Go.WideShapes Go.ChangeAt Go.RowKit
set_option linter.unusedVariables false
set_option maxHeartbeats 1000000
theorem bcell {W w1 : World} (hb : Below W.heap.size W w1) : (∀ b o, b < W.heap.size → w1.cell? ⟨b, o, none⟩ = W.cell? ⟨b, o, none⟩) ∧ (∀ b o, b < W.heap.size → w1.frozen? ⟨b, o, none⟩ = W.frozen? ⟨b, o, none⟩) :=
 ⟨fun b o h => hb.cell (p := ⟨b, o, none⟩) h, fun b o h => hb.frozen (p := ⟨b, o, none⟩) h⟩
def witB (n lo hi : Int) : Bool := decide (lo ≤ n ∧ n ≤ hi)
theorem within_any (n lo hi : Int) (w : World) :
  Calls Tryz.prog 47 #[.int .i64 n, .int .i64 lo, .int .i64 hi] w fun e w' => e = .returned (.bool (witB n lo hi)) ∧ w = w' := by
 by_cases h1 : lo ≤ n
 ·by_cases h2 : n ≤ hi
  ·have H := Lib.hid (show witB n lo hi = true by unfold witB; rw [decide_eq_true_eq]; omega)
   go_enter Tryz.func47, Tryz.ntmps47
   go_wp2
   go_ret
   exact ⟨by rw [H.out]; rfl, rfl⟩
  ·have H := Lib.hid (show witB n lo hi = false by unfold witB; rw [decide_eq_false_iff_not]; omega)
   go_enter Tryz.func47, Tryz.ntmps47
   go_wp2
   go_ret
   exact ⟨by rw [H.out]; rfl, rfl⟩
 ·have H := Lib.hid (show witB n lo hi = false by unfold witB; rw [decide_eq_false_iff_not]; omega)
  go_enter Tryz.func47, Tryz.ntmps47
  go_wp2
  go_ret
  exact ⟨by rw [H.out]; rfl, rfl⟩
/-- the periods of a rule lie at A below block B: n pairs. -/
def PerAt (w : World) (B : Nat) (A : Option Addr) (n : Nat) (ps : List (Int × Int)) : Prop :=
 ps.length = n ∧ (0 < n → ∃ b off, A = some ⟨b, off, none⟩ ∧ b < B ∧ ∀ k, k < n → w.cell? ⟨b, off + k * 2, none⟩ = some (.int .i64 (ps.getD k (0, 0)).1) ∧ w.cell? ⟨b, off + k * 2 + 1, none⟩ = some (.int .i64 (ps.getD k (0, 0)).2))
def perOk (n : Nat) (k : Nat) (p : Int × Int) : Bool := witB p.1 0 400 && (witB p.2 1 100000000 && ((p.1 == 0) == ((k : Int) == (n : Int) - 1)))
/-- what clock.Check accepts. -/
def RuleOk (n : Nat) (inc delay : Int) (ps : List (Int × Int)) : Prop :=
 (1 ≤ n ∧ n ≤ 5) ∧ (0 ≤ inc ∧ inc ≤ 100000000) ∧ (0 ≤ delay ∧ delay ≤ 100000000) ∧ ∀ k, k < n → perOk n k (ps.getD k (0, 0)) = true
def ChkPost (ok : Prop) (w : World) (e : Ending) (w' : World) : Prop := ∃ c : Int, e = .returned (.int .i64 c) ∧ (c = 0 ↔ ok) ∧ Below w.heap.size w w'
theorem witB_true {n lo hi : Int} (h : lo ≤ n ∧ n ≤ hi) : witB n lo hi = true := by unfold witB; simpa using h
theorem witB_false {n lo hi : Int} (h : ¬ (lo ≤ n ∧ n ≤ hi)) : witB n lo hi = false := by unfold witB; rw [decide_eq_false_iff_not]; exact h
theorem witB_iff {n lo hi : Int} : witB n lo hi = true ↔ lo ≤ n ∧ n ≤ hi := by unfold witB; simp
theorem Check_any (A : Option Addr) (n cap : Nat) (inc delay : Int) (ps : List (Int × Int)) (w : World) (hn : n ≤ 9223372036854775807) (hp : PerAt w w.heap.size A n ps) :
  Calls Tryz.prog 46 #[.agg #[.slice A n cap, .int .i64 inc, .int .i64 delay]] w (ChkPost (RuleOk n inc delay ps) w) := by
 by_cases h1 : 1 ≤ n ∧ n ≤ 5
 ·obtain ⟨h1, h2⟩ := h1
  obtain ⟨hl, hp⟩ := hp
  obtain ⟨b, off, rfl, hb, hcells⟩ := hp (by omega)
  have Hc := Lib.hid hcells
  clear hl hp hcells
  have e1 : witB n 1 5 = true := witB_true (by omega)
  by_cases h3 : 0 ≤ inc ∧ inc ≤ 100000000
  ·have e3 := witB_true h3
   by_cases h4 : 0 ≤ delay ∧ delay ≤ 100000000
   ·have e4 := witB_true h4
    go_enter Tryz.func46, Tryz.ntmps46
    go_wp2_with (go_at_call 47; refine (within_any _ _ _ _).mono ?_; rintro e w' ⟨rfl, rfl⟩)
    go_loopw [23] (fun i wr => ∃ k : Nat, k ≤ n ∧ i = .int .i64 k ∧ Hid (∀ j, j < k → perOk n j (ps.getD j (0, 0)) = true) ∧ Below (w.alloc (.cells #[.slice (some ⟨b, off, none⟩) n cap, .int .i64 inc, .int .i64 delay] 29)).heap.size (w.alloc (.cells #[.slice (some ⟨b, off, none⟩) n cap, .int .i64 inc, .int .i64 delay] 29)) wr) (fun i _ => n - (intOf i).toNat)
    case atStart => exact ⟨0, Nat.zero_le _, rfl, Lib.hid (fun j hj => absurd hj (by omega)), Below.refl _ _⟩
    case round =>
     obtain ⟨k, hk, rfl, Hk, hbl⟩ := hrel
     obtain ⟨hcell, hfr⟩ := bcell hbl
     have hz := hbl.size
     simp at hz
     have hz1 : w.heap.size < wr.heap.size := by omega
     have hz2 : b < wr.heap.size := by omega
     by_cases hlt : k < n
     ·obtain ⟨c1, c2⟩ := Hc.out k hlt
      have HS : Hid (perOk n k (ps.getD k (0, 0)) = true → ∀ j, j < k + 1 → perOk n j (ps.getD j (0, 0)) = true) := Lib.hid (fun h j hj => by
       by_cases e : j = k
       ·subst e; exact h
       ·exact Hk.out j (by omega))
      have HF : Hid (perOk n k (ps.getD k (0, 0)) = false → ¬ RuleOk n inc delay ps) := Lib.hid (fun h hr => by have := hr.2.2.2 k hlt; rw [h] at this; cases this)
      generalize ps.getD k (0, 0) = q at *
      obtain ⟨qm, qt⟩ := q
      go_wp2_with (go_at_call 47; refine (within_any _ _ _ _).mono ?_; rintro e w' ⟨rfl, rfl⟩)
      ·have hq : perOk n k (qm, qt) = false := by simp_all [perOk]
       go_ret
       exact ⟨_, rfl, ⟨(fun h => by cases h), fun h => absurd h (HF.out hq)⟩, (((Below.refl _ _).alloc (by go_size) _).trans (hbl.mono (by go_size))).alloc (by go_size) _⟩
      ·have hq : perOk n k (qm, qt) = false := by simp_all [perOk]
       go_ret
       exact ⟨_, rfl, ⟨(fun h => by cases h), fun h => absurd h (HF.out hq)⟩, (((Below.refl _ _).alloc (by go_size) _).trans (hbl.mono (by go_size))).alloc (by go_size) _⟩
      ·have hq : perOk n k (qm, qt) = true := by simp_all [perOk]
       go_roundw
       case rel => exact ⟨k + 1, by omega, by go_num, Lib.hid (HS.out hq), hbl.alloc (by go_size) _⟩
       case measure => simp [intOf]; omega
      ·have hq : perOk n k (qm, qt) = false := by simp_all [perOk]
       go_ret
       exact ⟨_, rfl, ⟨(fun h => by cases h), fun h => absurd h (HF.out hq)⟩, (((Below.refl _ _).alloc (by go_size) _).trans (hbl.mono (by go_size))).alloc (by go_size) _⟩
     ·go_wp2
      go_ret
      refine ⟨_, rfl, ⟨fun _ => ⟨⟨h1, h2⟩, h3, h4, fun j hj => Hk.out j (by omega)⟩, fun _ => rfl⟩, ?_⟩
      exact ((Below.refl _ _).alloc (Nat.le_refl _) _).trans (hbl.mono (by go_size))
   ·have e4 := witB_false h4
    go_enter Tryz.func46, Tryz.ntmps46
    go_wp2_with (go_at_call 47; refine (within_any _ _ _ _).mono ?_; rintro e w' ⟨rfl, rfl⟩)
    go_ret
    exact ⟨_, rfl, ⟨(fun h => by cases h), fun h => absurd h.2.2.1 h4⟩, by go_grown⟩
  ·have e3 := witB_false h3
   go_enter Tryz.func46, Tryz.ntmps46
   go_wp2_with (go_at_call 47; refine (within_any _ _ _ _).mono ?_; rintro e w' ⟨rfl, rfl⟩)
   go_ret
   exact ⟨_, rfl, ⟨(fun h => by cases h), fun h => absurd h.2.1 h3⟩, by go_grown⟩
 ·have e1 : witB n 1 5 = false := witB_false (by omega)
  have H1 := Lib.hid h1
  clear h1
  go_enter Tryz.func46, Tryz.ntmps46
  go_wp2_with (go_at_call 47; refine (within_any _ _ _ _).mono ?_; rintro e w' ⟨rfl, rfl⟩)
  go_ret
  exact ⟨_, rfl, ⟨(fun h => by cases h), fun h => absurd h.1 H1.out⟩, by go_grown⟩
end Go.Proofs.YtnodagljaoonjaaGreatDoor.clk
/- The contract of clock.Valid. -/
namespace Go.Proofs.YtnodagljaoonjaaGreatDoor.clk
open Go.ChangeShapes Go.WideShapes Go.ChangeAt Go.RowKit
set_option linter.unusedVariables false
set_option maxHeartbeats 1000000
/-- a call that leaves the world alone, inside a region that draws. -/
theorem still {P : Program} {f : FuncId} {args : Array Value} {W : World} {v : Value} {Q : World → Prop} (h : Calls P f args W fun e w' => e = .returned v ∧ W = w') (hq : Q W) :
  Calls P f args W fun e w'' => e = .returned v ∧ Q w'' := h.mono fun _ _ ⟨he, hw⟩ => ⟨he, hw ▸ hq⟩
def ClkOk (n : Nat) (l0 l1 m0 m1 p0 p1 turn since fallen : Int) : Prop := (0 ≤ turn ∧ turn ≤ 1) ∧ ((-1) ≤ fallen ∧ fallen ≤ 1) ∧ (0 ≤ since ∧ since ≤ 100000000) ∧ (0 ≤ p0 ∧ p0 ≤ ((n : Int) - 1)) ∧ (0 ≤ m0 ∧ m0 ≤ 400) ∧ (0 ≤ l0 ∧ l0 ≤ 100000000000) ∧ (0 ≤ p1 ∧ p1 ≤ ((n : Int) - 1)) ∧ (0 ≤ m1 ∧ m1 ≤ 400) ∧ (0 ≤ l1 ∧ l1 ≤ 100000000000)
theorem PerAt.mono {w w' : World} {B B' : Nat} {A : Option Addr} {n : Nat} {ps : List (Int × Int)} (h : PerAt w B A n ps) (hB : B ≤ B') (hb : ∀ p : Addr, p.block < B → w'.cell? p = w.cell? p) : PerAt w' B' A n ps := by
 refine ⟨h.1, fun hn => ?_⟩
 obtain ⟨b, off, rfl, hlt, hc⟩ := h.2 hn
 exact ⟨b, off, rfl, by omega, fun k hk => ⟨(hb _ hlt).trans (hc k hk).1, (hb _ hlt).trans (hc k hk).2⟩⟩
theorem PerAt.alloc {w : World} {A : Option Addr} {n : Nat} {ps : List (Int × Int)} (h : PerAt w w.heap.size A n ps) (o : Obj) : PerAt (w.alloc o) (w.alloc o).heap.size A n ps :=
 h.mono (by simp) (fun p hp => World.cell?_alloc_lt w o p hp)
theorem PerAt.below {w w' : World} {A : Option Addr} {n : Nat} {ps : List (Int × Int)} (h : PerAt w w.heap.size A n ps) (hb : Below w.heap.size w w') : PerAt w' w'.heap.size A n ps :=
 h.mono hb.size (fun p hp => hb.cell hp)
theorem Valid_rule (A : Option Addr) (n cap : Nat) (inc delay : Int) (ps : List (Int × Int)) (l0 l1 m0 m1 p0 p1 turn since fallen : Int) (st : Bool) (w : World) (hn : n ≤ 9223372036854775807) (hp : PerAt w w.heap.size A n ps) (h : ¬ RuleOk n inc delay ps) :
  Calls Tryz.prog 57 #[.agg #[.slice A n cap, .int .i64 inc, .int .i64 delay], .agg #[.int .i64 l0, .int .i64 l1, .int .i64 m0, .int .i64 m1, .int .i64 p0, .int .i64 p1, .int .i64 turn, .int .i64 since, .bool st, .int .i64 fallen]] w (ChkPost (RuleOk n inc delay ps ∧ ClkOk n l0 l1 m0 m1 p0 p1 turn since fallen) w) := by
 have H := Lib.hid h
 clear h
 have hP := Lib.hid ((hp.alloc (.cells #[.slice A n cap, .int .i64 inc, .int .i64 delay] 29)).alloc (.cells #[.int .i64 l0, .int .i64 l1, .int .i64 m0, .int .i64 m1, .int .i64 p0, .int .i64 p1, .int .i64 turn, .int .i64 since, .bool st, .int .i64 fallen] 44))
 clear hp
 go_enter Tryz.func57, Tryz.ntmps57
 go_wp2_with fail
 refine (Check_any A n cap inc delay ps _ hn (hP.out)).mono ?_
 rintro e w1 ⟨c, rfl, hc, hb⟩
 have h1 : (c != 0) = true := by rw [bne_iff_ne]; exact fun h0 => H.out (hc.1 h0)
 clear hc
 go_wp2
 go_ret
 exact ⟨_, rfl, ⟨fun h => by simp [h] at h1, fun h => absurd h.1 H.out⟩, ((((Below.refl w.heap.size w).alloc (by go_size) _).alloc (by go_size) _).trans (hb.mono (by go_size)))⟩
theorem Valid_0 (A : Option Addr) (n cap : Nat) (inc delay : Int) (ps : List (Int × Int)) (l0 l1 m0 m1 p0 p1 turn since fallen : Int) (st : Bool) (w : World) (hn : n ≤ 9223372036854775807) (hp : PerAt w w.heap.size A n ps) (hr : RuleOk n inc delay ps) (e0 : witB turn 0 1 = false) :
  Calls Tryz.prog 57 #[.agg #[.slice A n cap, .int .i64 inc, .int .i64 delay], .agg #[.int .i64 l0, .int .i64 l1, .int .i64 m0, .int .i64 m1, .int .i64 p0, .int .i64 p1, .int .i64 turn, .int .i64 since, .bool st, .int .i64 fallen]] w (ChkPost (RuleOk n inc delay ps ∧ ClkOk n l0 l1 m0 m1 p0 p1 turn since fallen) w) := by
 have H := Lib.hid hr
 clear hr
 have hn5 : n ≤ 5 := H.out.1.2
 have hn1 : 1 ≤ n := H.out.1.1
 have HC : Hid (¬ ClkOk n l0 l1 m0 m1 p0 p1 turn since fallen) := Lib.hid (fun h => by have := witB_true (h.1); rw [e0] at this; cases this)
 have hP := Lib.hid ((hp.alloc (.cells #[.slice A n cap, .int .i64 inc, .int .i64 delay] 29)).alloc (.cells #[.int .i64 l0, .int .i64 l1, .int .i64 m0, .int .i64 m1, .int .i64 p0, .int .i64 p1, .int .i64 turn, .int .i64 since, .bool st, .int .i64 fallen] 44))
 clear hp
 go_enter Tryz.func57, Tryz.ntmps57
 go_wp2_with fail
 refine (Check_any A n cap inc delay ps _ hn (hP.out)).mono ?_
 rintro e w1 ⟨c, rfl, hc, hb⟩
 obtain rfl : c = 0 := hc.2 H.out
 clear hc
 obtain ⟨hcell, hfr⟩ := bcell hb
 have hs := hb.size
 (try simp only [World.size_alloc] at hs)
 go_wp2_with (go_at_call 47; refine (within_any _ _ _ _).mono ?_; rintro e w' ⟨rfl, rfl⟩)
 refine wp_loop_rounds 3 ?_
 rw [rounds_succ]
 go_wp2_with (go_at_call 47; refine (within_any _ _ _ _).mono ?_; rintro e w' ⟨rfl, rfl⟩)
 go_quiet ((go_at_call 47; exact still (within_any _ _ _ _) ⟨_, rfl⟩))
 go_wp2_with (go_at_call 47; refine (within_any _ _ _ _).mono ?_; rintro e w' ⟨rfl, rfl⟩)
 rw [rounds_succ]
 go_wp2_with (go_at_call 47; refine (within_any _ _ _ _).mono ?_; rintro e w' ⟨rfl, rfl⟩)
 go_quiet ((go_at_call 47; exact still (within_any _ _ _ _) ⟨_, rfl⟩))
 go_wp2_with (go_at_call 47; refine (within_any _ _ _ _).mono ?_; rintro e w' ⟨rfl, rfl⟩)
 rw [rounds_succ]
 go_wp2_with (go_at_call 47; refine (within_any _ _ _ _).mono ?_; rintro e w' ⟨rfl, rfl⟩)
 go_ret
 exact ⟨_, rfl, ⟨(fun h => by cases h), fun h => absurd h.2 HC.out⟩, below_drewN ((((Below.refl w.heap.size w).alloc (by go_size) _).alloc (by go_size) _).trans (hb.mono (by go_size))) _⟩
theorem Valid_1 (A : Option Addr) (n cap : Nat) (inc delay : Int) (ps : List (Int × Int)) (l0 l1 m0 m1 p0 p1 turn since fallen : Int) (st : Bool) (w : World) (hn : n ≤ 9223372036854775807) (hp : PerAt w w.heap.size A n ps) (hr : RuleOk n inc delay ps) (e0 : witB turn 0 1 = true) (e1 : witB fallen (-1) 1 = false) :
  Calls Tryz.prog 57 #[.agg #[.slice A n cap, .int .i64 inc, .int .i64 delay], .agg #[.int .i64 l0, .int .i64 l1, .int .i64 m0, .int .i64 m1, .int .i64 p0, .int .i64 p1, .int .i64 turn, .int .i64 since, .bool st, .int .i64 fallen]] w (ChkPost (RuleOk n inc delay ps ∧ ClkOk n l0 l1 m0 m1 p0 p1 turn since fallen) w) := by
 have H := Lib.hid hr
 clear hr
 have hn5 : n ≤ 5 := H.out.1.2
 have hn1 : 1 ≤ n := H.out.1.1
 have HC : Hid (¬ ClkOk n l0 l1 m0 m1 p0 p1 turn since fallen) := Lib.hid (fun h => by have := witB_true (h.2.1); rw [e1] at this; cases this)
 have hP := Lib.hid ((hp.alloc (.cells #[.slice A n cap, .int .i64 inc, .int .i64 delay] 29)).alloc (.cells #[.int .i64 l0, .int .i64 l1, .int .i64 m0, .int .i64 m1, .int .i64 p0, .int .i64 p1, .int .i64 turn, .int .i64 since, .bool st, .int .i64 fallen] 44))
 clear hp
 go_enter Tryz.func57, Tryz.ntmps57
 go_wp2_with fail
 refine (Check_any A n cap inc delay ps _ hn (hP.out)).mono ?_
 rintro e w1 ⟨c, rfl, hc, hb⟩
 obtain rfl : c = 0 := hc.2 H.out
 clear hc
 obtain ⟨hcell, hfr⟩ := bcell hb
 have hs := hb.size
 (try simp only [World.size_alloc] at hs)
 go_wp2_with (go_at_call 47; refine (within_any _ _ _ _).mono ?_; rintro e w' ⟨rfl, rfl⟩)
 refine wp_loop_rounds 3 ?_
 rw [rounds_succ]
 go_wp2_with (go_at_call 47; refine (within_any _ _ _ _).mono ?_; rintro e w' ⟨rfl, rfl⟩)
 go_quiet ((go_at_call 47; exact still (within_any _ _ _ _) ⟨_, rfl⟩))
 go_wp2_with (go_at_call 47; refine (within_any _ _ _ _).mono ?_; rintro e w' ⟨rfl, rfl⟩)
 rw [rounds_succ]
 go_wp2_with (go_at_call 47; refine (within_any _ _ _ _).mono ?_; rintro e w' ⟨rfl, rfl⟩)
 go_quiet ((go_at_call 47; exact still (within_any _ _ _ _) ⟨_, rfl⟩))
 go_wp2_with (go_at_call 47; refine (within_any _ _ _ _).mono ?_; rintro e w' ⟨rfl, rfl⟩)
 rw [rounds_succ]
 go_wp2_with (go_at_call 47; refine (within_any _ _ _ _).mono ?_; rintro e w' ⟨rfl, rfl⟩)
 go_ret
 exact ⟨_, rfl, ⟨(fun h => by cases h), fun h => absurd h.2 HC.out⟩, below_drewN ((((Below.refl w.heap.size w).alloc (by go_size) _).alloc (by go_size) _).trans (hb.mono (by go_size))) _⟩
theorem Valid_2 (A : Option Addr) (n cap : Nat) (inc delay : Int) (ps : List (Int × Int)) (l0 l1 m0 m1 p0 p1 turn since fallen : Int) (st : Bool) (w : World) (hn : n ≤ 9223372036854775807) (hp : PerAt w w.heap.size A n ps) (hr : RuleOk n inc delay ps) (e0 : witB turn 0 1 = true) (e1 : witB fallen (-1) 1 = true) (e2 : witB since 0 100000000 = false) :
  Calls Tryz.prog 57 #[.agg #[.slice A n cap, .int .i64 inc, .int .i64 delay], .agg #[.int .i64 l0, .int .i64 l1, .int .i64 m0, .int .i64 m1, .int .i64 p0, .int .i64 p1, .int .i64 turn, .int .i64 since, .bool st, .int .i64 fallen]] w (ChkPost (RuleOk n inc delay ps ∧ ClkOk n l0 l1 m0 m1 p0 p1 turn since fallen) w) := by
 have H := Lib.hid hr
 clear hr
 have hn5 : n ≤ 5 := H.out.1.2
 have hn1 : 1 ≤ n := H.out.1.1
 have HC : Hid (¬ ClkOk n l0 l1 m0 m1 p0 p1 turn since fallen) := Lib.hid (fun h => by have := witB_true (h.2.2.1); rw [e2] at this; cases this)
 have hP := Lib.hid ((hp.alloc (.cells #[.slice A n cap, .int .i64 inc, .int .i64 delay] 29)).alloc (.cells #[.int .i64 l0, .int .i64 l1, .int .i64 m0, .int .i64 m1, .int .i64 p0, .int .i64 p1, .int .i64 turn, .int .i64 since, .bool st, .int .i64 fallen] 44))
 clear hp
 go_enter Tryz.func57, Tryz.ntmps57
 go_wp2_with fail
 refine (Check_any A n cap inc delay ps _ hn (hP.out)).mono ?_
 rintro e w1 ⟨c, rfl, hc, hb⟩
 obtain rfl : c = 0 := hc.2 H.out
 clear hc
 obtain ⟨hcell, hfr⟩ := bcell hb
 have hs := hb.size
 (try simp only [World.size_alloc] at hs)
 go_wp2_with (go_at_call 47; refine (within_any _ _ _ _).mono ?_; rintro e w' ⟨rfl, rfl⟩)
 refine wp_loop_rounds 3 ?_
 rw [rounds_succ]
 go_wp2_with (go_at_call 47; refine (within_any _ _ _ _).mono ?_; rintro e w' ⟨rfl, rfl⟩)
 go_quiet ((go_at_call 47; exact still (within_any _ _ _ _) ⟨_, rfl⟩))
 go_wp2_with (go_at_call 47; refine (within_any _ _ _ _).mono ?_; rintro e w' ⟨rfl, rfl⟩)
 rw [rounds_succ]
 go_wp2_with (go_at_call 47; refine (within_any _ _ _ _).mono ?_; rintro e w' ⟨rfl, rfl⟩)
 go_quiet ((go_at_call 47; exact still (within_any _ _ _ _) ⟨_, rfl⟩))
 go_wp2_with (go_at_call 47; refine (within_any _ _ _ _).mono ?_; rintro e w' ⟨rfl, rfl⟩)
 rw [rounds_succ]
 go_wp2_with (go_at_call 47; refine (within_any _ _ _ _).mono ?_; rintro e w' ⟨rfl, rfl⟩)
 go_ret
 exact ⟨_, rfl, ⟨(fun h => by cases h), fun h => absurd h.2 HC.out⟩, below_drewN ((((Below.refl w.heap.size w).alloc (by go_size) _).alloc (by go_size) _).trans (hb.mono (by go_size))) _⟩
theorem Valid_3 (A : Option Addr) (n cap : Nat) (inc delay : Int) (ps : List (Int × Int)) (l0 l1 m0 m1 p0 p1 turn since fallen : Int) (st : Bool) (w : World) (hn : n ≤ 9223372036854775807) (hp : PerAt w w.heap.size A n ps) (hr : RuleOk n inc delay ps) (e0 : witB turn 0 1 = true) (e1 : witB fallen (-1) 1 = true) (e2 : witB since 0 100000000 = true) (e3 : witB p0 0 ((n : Int) - 1) = false) :
  Calls Tryz.prog 57 #[.agg #[.slice A n cap, .int .i64 inc, .int .i64 delay], .agg #[.int .i64 l0, .int .i64 l1, .int .i64 m0, .int .i64 m1, .int .i64 p0, .int .i64 p1, .int .i64 turn, .int .i64 since, .bool st, .int .i64 fallen]] w (ChkPost (RuleOk n inc delay ps ∧ ClkOk n l0 l1 m0 m1 p0 p1 turn since fallen) w) := by
 have H := Lib.hid hr
 clear hr
 have hn5 : n ≤ 5 := H.out.1.2
 have hn1 : 1 ≤ n := H.out.1.1
 have HC : Hid (¬ ClkOk n l0 l1 m0 m1 p0 p1 turn since fallen) := Lib.hid (fun h => by have := witB_true (h.2.2.2.1); rw [e3] at this; cases this)
 have hP := Lib.hid ((hp.alloc (.cells #[.slice A n cap, .int .i64 inc, .int .i64 delay] 29)).alloc (.cells #[.int .i64 l0, .int .i64 l1, .int .i64 m0, .int .i64 m1, .int .i64 p0, .int .i64 p1, .int .i64 turn, .int .i64 since, .bool st, .int .i64 fallen] 44))
 clear hp
 go_enter Tryz.func57, Tryz.ntmps57
 go_wp2_with fail
 refine (Check_any A n cap inc delay ps _ hn (hP.out)).mono ?_
 rintro e w1 ⟨c, rfl, hc, hb⟩
 obtain rfl : c = 0 := hc.2 H.out
 clear hc
 obtain ⟨hcell, hfr⟩ := bcell hb
 have hs := hb.size
 (try simp only [World.size_alloc] at hs)
 go_wp2_with (go_at_call 47; refine (within_any _ _ _ _).mono ?_; rintro e w' ⟨rfl, rfl⟩)
 refine wp_loop_rounds 3 ?_
 rw [rounds_succ]
 go_wp2_with (go_at_call 47; refine (within_any _ _ _ _).mono ?_; rintro e w' ⟨rfl, rfl⟩)
 go_quiet ((go_at_call 47; exact still (within_any _ _ _ _) ⟨_, rfl⟩))
 go_wp2_with (go_at_call 47; refine (within_any _ _ _ _).mono ?_; rintro e w' ⟨rfl, rfl⟩)
 rw [rounds_succ]
 go_wp2_with (go_at_call 47; refine (within_any _ _ _ _).mono ?_; rintro e w' ⟨rfl, rfl⟩)
 go_quiet ((go_at_call 47; exact still (within_any _ _ _ _) ⟨_, rfl⟩))
 go_wp2_with (go_at_call 47; refine (within_any _ _ _ _).mono ?_; rintro e w' ⟨rfl, rfl⟩)
 rw [rounds_succ]
 go_wp2_with (go_at_call 47; refine (within_any _ _ _ _).mono ?_; rintro e w' ⟨rfl, rfl⟩)
 go_ret
 exact ⟨_, rfl, ⟨(fun h => by cases h), fun h => absurd h.2 HC.out⟩, below_drewN ((((Below.refl w.heap.size w).alloc (by go_size) _).alloc (by go_size) _).trans (hb.mono (by go_size))) _⟩
theorem Valid_4 (A : Option Addr) (n cap : Nat) (inc delay : Int) (ps : List (Int × Int)) (l0 l1 m0 m1 p0 p1 turn since fallen : Int) (st : Bool) (w : World) (hn : n ≤ 9223372036854775807) (hp : PerAt w w.heap.size A n ps) (hr : RuleOk n inc delay ps) (e0 : witB turn 0 1 = true) (e1 : witB fallen (-1) 1 = true) (e2 : witB since 0 100000000 = true) (e3 : witB p0 0 ((n : Int) - 1) = true) (e4 : witB m0 0 400 = false) :
  Calls Tryz.prog 57 #[.agg #[.slice A n cap, .int .i64 inc, .int .i64 delay], .agg #[.int .i64 l0, .int .i64 l1, .int .i64 m0, .int .i64 m1, .int .i64 p0, .int .i64 p1, .int .i64 turn, .int .i64 since, .bool st, .int .i64 fallen]] w (ChkPost (RuleOk n inc delay ps ∧ ClkOk n l0 l1 m0 m1 p0 p1 turn since fallen) w) := by
 have H := Lib.hid hr
 clear hr
 have hn5 : n ≤ 5 := H.out.1.2
 have hn1 : 1 ≤ n := H.out.1.1
 have HC : Hid (¬ ClkOk n l0 l1 m0 m1 p0 p1 turn since fallen) := Lib.hid (fun h => by have := witB_true (h.2.2.2.2.1); rw [e4] at this; cases this)
 have hP := Lib.hid ((hp.alloc (.cells #[.slice A n cap, .int .i64 inc, .int .i64 delay] 29)).alloc (.cells #[.int .i64 l0, .int .i64 l1, .int .i64 m0, .int .i64 m1, .int .i64 p0, .int .i64 p1, .int .i64 turn, .int .i64 since, .bool st, .int .i64 fallen] 44))
 clear hp
 go_enter Tryz.func57, Tryz.ntmps57
 go_wp2_with fail
 refine (Check_any A n cap inc delay ps _ hn (hP.out)).mono ?_
 rintro e w1 ⟨c, rfl, hc, hb⟩
 obtain rfl : c = 0 := hc.2 H.out
 clear hc
 obtain ⟨hcell, hfr⟩ := bcell hb
 have hs := hb.size
 (try simp only [World.size_alloc] at hs)
 go_wp2_with (go_at_call 47; refine (within_any _ _ _ _).mono ?_; rintro e w' ⟨rfl, rfl⟩)
 refine wp_loop_rounds 3 ?_
 rw [rounds_succ]
 go_wp2_with (go_at_call 47; refine (within_any _ _ _ _).mono ?_; rintro e w' ⟨rfl, rfl⟩)
 go_quiet ((go_at_call 47; exact still (within_any _ _ _ _) ⟨_, rfl⟩))
 go_wp2_with (go_at_call 47; refine (within_any _ _ _ _).mono ?_; rintro e w' ⟨rfl, rfl⟩)
 rw [rounds_succ]
 go_wp2_with (go_at_call 47; refine (within_any _ _ _ _).mono ?_; rintro e w' ⟨rfl, rfl⟩)
 go_quiet ((go_at_call 47; exact still (within_any _ _ _ _) ⟨_, rfl⟩))
 go_wp2_with (go_at_call 47; refine (within_any _ _ _ _).mono ?_; rintro e w' ⟨rfl, rfl⟩)
 rw [rounds_succ]
 go_wp2_with (go_at_call 47; refine (within_any _ _ _ _).mono ?_; rintro e w' ⟨rfl, rfl⟩)
 go_ret
 exact ⟨_, rfl, ⟨(fun h => by cases h), fun h => absurd h.2 HC.out⟩, below_drewN ((((Below.refl w.heap.size w).alloc (by go_size) _).alloc (by go_size) _).trans (hb.mono (by go_size))) _⟩
theorem Valid_5 (A : Option Addr) (n cap : Nat) (inc delay : Int) (ps : List (Int × Int)) (l0 l1 m0 m1 p0 p1 turn since fallen : Int) (st : Bool) (w : World) (hn : n ≤ 9223372036854775807) (hp : PerAt w w.heap.size A n ps) (hr : RuleOk n inc delay ps) (e0 : witB turn 0 1 = true) (e1 : witB fallen (-1) 1 = true) (e2 : witB since 0 100000000 = true) (e3 : witB p0 0 ((n : Int) - 1) = true) (e4 : witB m0 0 400 = true) (e5 : witB l0 0 100000000000 = false) :
  Calls Tryz.prog 57 #[.agg #[.slice A n cap, .int .i64 inc, .int .i64 delay], .agg #[.int .i64 l0, .int .i64 l1, .int .i64 m0, .int .i64 m1, .int .i64 p0, .int .i64 p1, .int .i64 turn, .int .i64 since, .bool st, .int .i64 fallen]] w (ChkPost (RuleOk n inc delay ps ∧ ClkOk n l0 l1 m0 m1 p0 p1 turn since fallen) w) := by
 have H := Lib.hid hr
 clear hr
 have hn5 : n ≤ 5 := H.out.1.2
 have hn1 : 1 ≤ n := H.out.1.1
 have HC : Hid (¬ ClkOk n l0 l1 m0 m1 p0 p1 turn since fallen) := Lib.hid (fun h => by have := witB_true (h.2.2.2.2.2.1); rw [e5] at this; cases this)
 have hP := Lib.hid ((hp.alloc (.cells #[.slice A n cap, .int .i64 inc, .int .i64 delay] 29)).alloc (.cells #[.int .i64 l0, .int .i64 l1, .int .i64 m0, .int .i64 m1, .int .i64 p0, .int .i64 p1, .int .i64 turn, .int .i64 since, .bool st, .int .i64 fallen] 44))
 clear hp
 go_enter Tryz.func57, Tryz.ntmps57
 go_wp2_with fail
 refine (Check_any A n cap inc delay ps _ hn (hP.out)).mono ?_
 rintro e w1 ⟨c, rfl, hc, hb⟩
 obtain rfl : c = 0 := hc.2 H.out
 clear hc
 obtain ⟨hcell, hfr⟩ := bcell hb
 have hs := hb.size
 (try simp only [World.size_alloc] at hs)
 go_wp2_with (go_at_call 47; refine (within_any _ _ _ _).mono ?_; rintro e w' ⟨rfl, rfl⟩)
 refine wp_loop_rounds 3 ?_
 rw [rounds_succ]
 go_wp2_with (go_at_call 47; refine (within_any _ _ _ _).mono ?_; rintro e w' ⟨rfl, rfl⟩)
 go_quiet ((go_at_call 47; exact still (within_any _ _ _ _) ⟨_, rfl⟩))
 go_wp2_with (go_at_call 47; refine (within_any _ _ _ _).mono ?_; rintro e w' ⟨rfl, rfl⟩)
 rw [rounds_succ]
 go_wp2_with (go_at_call 47; refine (within_any _ _ _ _).mono ?_; rintro e w' ⟨rfl, rfl⟩)
 go_quiet ((go_at_call 47; exact still (within_any _ _ _ _) ⟨_, rfl⟩))
 go_wp2_with (go_at_call 47; refine (within_any _ _ _ _).mono ?_; rintro e w' ⟨rfl, rfl⟩)
 rw [rounds_succ]
 go_wp2_with (go_at_call 47; refine (within_any _ _ _ _).mono ?_; rintro e w' ⟨rfl, rfl⟩)
 go_ret
 exact ⟨_, rfl, ⟨(fun h => by cases h), fun h => absurd h.2 HC.out⟩, below_drewN ((((Below.refl w.heap.size w).alloc (by go_size) _).alloc (by go_size) _).trans (hb.mono (by go_size))) _⟩
theorem Valid_6 (A : Option Addr) (n cap : Nat) (inc delay : Int) (ps : List (Int × Int)) (l0 l1 m0 m1 p0 p1 turn since fallen : Int) (st : Bool) (w : World) (hn : n ≤ 9223372036854775807) (hp : PerAt w w.heap.size A n ps) (hr : RuleOk n inc delay ps) (e0 : witB turn 0 1 = true) (e1 : witB fallen (-1) 1 = true) (e2 : witB since 0 100000000 = true) (e3 : witB p0 0 ((n : Int) - 1) = true) (e4 : witB m0 0 400 = true) (e5 : witB l0 0 100000000000 = true) (e6 : witB p1 0 ((n : Int) - 1) = false) :
  Calls Tryz.prog 57 #[.agg #[.slice A n cap, .int .i64 inc, .int .i64 delay], .agg #[.int .i64 l0, .int .i64 l1, .int .i64 m0, .int .i64 m1, .int .i64 p0, .int .i64 p1, .int .i64 turn, .int .i64 since, .bool st, .int .i64 fallen]] w (ChkPost (RuleOk n inc delay ps ∧ ClkOk n l0 l1 m0 m1 p0 p1 turn since fallen) w) := by
 have H := Lib.hid hr
 clear hr
 have hn5 : n ≤ 5 := H.out.1.2
 have hn1 : 1 ≤ n := H.out.1.1
 have HC : Hid (¬ ClkOk n l0 l1 m0 m1 p0 p1 turn since fallen) := Lib.hid (fun h => by have := witB_true (h.2.2.2.2.2.2.1); rw [e6] at this; cases this)
 have hP := Lib.hid ((hp.alloc (.cells #[.slice A n cap, .int .i64 inc, .int .i64 delay] 29)).alloc (.cells #[.int .i64 l0, .int .i64 l1, .int .i64 m0, .int .i64 m1, .int .i64 p0, .int .i64 p1, .int .i64 turn, .int .i64 since, .bool st, .int .i64 fallen] 44))
 clear hp
 go_enter Tryz.func57, Tryz.ntmps57
 go_wp2_with fail
 refine (Check_any A n cap inc delay ps _ hn (hP.out)).mono ?_
 rintro e w1 ⟨c, rfl, hc, hb⟩
 obtain rfl : c = 0 := hc.2 H.out
 clear hc
 obtain ⟨hcell, hfr⟩ := bcell hb
 have hs := hb.size
 (try simp only [World.size_alloc] at hs)
 go_wp2_with (go_at_call 47; refine (within_any _ _ _ _).mono ?_; rintro e w' ⟨rfl, rfl⟩)
 refine wp_loop_rounds 3 ?_
 rw [rounds_succ]
 go_wp2_with (go_at_call 47; refine (within_any _ _ _ _).mono ?_; rintro e w' ⟨rfl, rfl⟩)
 go_quiet ((go_at_call 47; exact still (within_any _ _ _ _) ⟨_, rfl⟩))
 go_wp2_with (go_at_call 47; refine (within_any _ _ _ _).mono ?_; rintro e w' ⟨rfl, rfl⟩)
 rw [rounds_succ]
 go_wp2_with (go_at_call 47; refine (within_any _ _ _ _).mono ?_; rintro e w' ⟨rfl, rfl⟩)
 go_quiet ((go_at_call 47; exact still (within_any _ _ _ _) ⟨_, rfl⟩))
 go_wp2_with (go_at_call 47; refine (within_any _ _ _ _).mono ?_; rintro e w' ⟨rfl, rfl⟩)
 rw [rounds_succ]
 go_wp2_with (go_at_call 47; refine (within_any _ _ _ _).mono ?_; rintro e w' ⟨rfl, rfl⟩)
 go_ret
 exact ⟨_, rfl, ⟨(fun h => by cases h), fun h => absurd h.2 HC.out⟩, below_drewN ((((Below.refl w.heap.size w).alloc (by go_size) _).alloc (by go_size) _).trans (hb.mono (by go_size))) _⟩
theorem Valid_7 (A : Option Addr) (n cap : Nat) (inc delay : Int) (ps : List (Int × Int)) (l0 l1 m0 m1 p0 p1 turn since fallen : Int) (st : Bool) (w : World) (hn : n ≤ 9223372036854775807) (hp : PerAt w w.heap.size A n ps) (hr : RuleOk n inc delay ps) (e0 : witB turn 0 1 = true) (e1 : witB fallen (-1) 1 = true) (e2 : witB since 0 100000000 = true) (e3 : witB p0 0 ((n : Int) - 1) = true) (e4 : witB m0 0 400 = true) (e5 : witB l0 0 100000000000 = true) (e6 : witB p1 0 ((n : Int) - 1) = true) (e7 : witB m1 0 400 = false) :
  Calls Tryz.prog 57 #[.agg #[.slice A n cap, .int .i64 inc, .int .i64 delay], .agg #[.int .i64 l0, .int .i64 l1, .int .i64 m0, .int .i64 m1, .int .i64 p0, .int .i64 p1, .int .i64 turn, .int .i64 since, .bool st, .int .i64 fallen]] w (ChkPost (RuleOk n inc delay ps ∧ ClkOk n l0 l1 m0 m1 p0 p1 turn since fallen) w) := by
 have H := Lib.hid hr
 clear hr
 have hn5 : n ≤ 5 := H.out.1.2
 have hn1 : 1 ≤ n := H.out.1.1
 have HC : Hid (¬ ClkOk n l0 l1 m0 m1 p0 p1 turn since fallen) := Lib.hid (fun h => by have := witB_true (h.2.2.2.2.2.2.2.1); rw [e7] at this; cases this)
 have hP := Lib.hid ((hp.alloc (.cells #[.slice A n cap, .int .i64 inc, .int .i64 delay] 29)).alloc (.cells #[.int .i64 l0, .int .i64 l1, .int .i64 m0, .int .i64 m1, .int .i64 p0, .int .i64 p1, .int .i64 turn, .int .i64 since, .bool st, .int .i64 fallen] 44))
 clear hp
 go_enter Tryz.func57, Tryz.ntmps57
 go_wp2_with fail
 refine (Check_any A n cap inc delay ps _ hn (hP.out)).mono ?_
 rintro e w1 ⟨c, rfl, hc, hb⟩
 obtain rfl : c = 0 := hc.2 H.out
 clear hc
 obtain ⟨hcell, hfr⟩ := bcell hb
 have hs := hb.size
 (try simp only [World.size_alloc] at hs)
 go_wp2_with (go_at_call 47; refine (within_any _ _ _ _).mono ?_; rintro e w' ⟨rfl, rfl⟩)
 refine wp_loop_rounds 3 ?_
 rw [rounds_succ]
 go_wp2_with (go_at_call 47; refine (within_any _ _ _ _).mono ?_; rintro e w' ⟨rfl, rfl⟩)
 go_quiet ((go_at_call 47; exact still (within_any _ _ _ _) ⟨_, rfl⟩))
 go_wp2_with (go_at_call 47; refine (within_any _ _ _ _).mono ?_; rintro e w' ⟨rfl, rfl⟩)
 rw [rounds_succ]
 go_wp2_with (go_at_call 47; refine (within_any _ _ _ _).mono ?_; rintro e w' ⟨rfl, rfl⟩)
 go_quiet ((go_at_call 47; exact still (within_any _ _ _ _) ⟨_, rfl⟩))
 go_wp2_with (go_at_call 47; refine (within_any _ _ _ _).mono ?_; rintro e w' ⟨rfl, rfl⟩)
 rw [rounds_succ]
 go_wp2_with (go_at_call 47; refine (within_any _ _ _ _).mono ?_; rintro e w' ⟨rfl, rfl⟩)
 go_ret
 exact ⟨_, rfl, ⟨(fun h => by cases h), fun h => absurd h.2 HC.out⟩, below_drewN ((((Below.refl w.heap.size w).alloc (by go_size) _).alloc (by go_size) _).trans (hb.mono (by go_size))) _⟩
theorem Valid_8 (A : Option Addr) (n cap : Nat) (inc delay : Int) (ps : List (Int × Int)) (l0 l1 m0 m1 p0 p1 turn since fallen : Int) (st : Bool) (w : World) (hn : n ≤ 9223372036854775807) (hp : PerAt w w.heap.size A n ps) (hr : RuleOk n inc delay ps) (e0 : witB turn 0 1 = true) (e1 : witB fallen (-1) 1 = true) (e2 : witB since 0 100000000 = true) (e3 : witB p0 0 ((n : Int) - 1) = true) (e4 : witB m0 0 400 = true) (e5 : witB l0 0 100000000000 = true) (e6 : witB p1 0 ((n : Int) - 1) = true) (e7 : witB m1 0 400 = true) (e8 : witB l1 0 100000000000 = false) :
  Calls Tryz.prog 57 #[.agg #[.slice A n cap, .int .i64 inc, .int .i64 delay], .agg #[.int .i64 l0, .int .i64 l1, .int .i64 m0, .int .i64 m1, .int .i64 p0, .int .i64 p1, .int .i64 turn, .int .i64 since, .bool st, .int .i64 fallen]] w (ChkPost (RuleOk n inc delay ps ∧ ClkOk n l0 l1 m0 m1 p0 p1 turn since fallen) w) := by
 have H := Lib.hid hr
 clear hr
 have hn5 : n ≤ 5 := H.out.1.2
 have hn1 : 1 ≤ n := H.out.1.1
 have HC : Hid (¬ ClkOk n l0 l1 m0 m1 p0 p1 turn since fallen) := Lib.hid (fun h => by have := witB_true (h.2.2.2.2.2.2.2.2); rw [e8] at this; cases this)
 have hP := Lib.hid ((hp.alloc (.cells #[.slice A n cap, .int .i64 inc, .int .i64 delay] 29)).alloc (.cells #[.int .i64 l0, .int .i64 l1, .int .i64 m0, .int .i64 m1, .int .i64 p0, .int .i64 p1, .int .i64 turn, .int .i64 since, .bool st, .int .i64 fallen] 44))
 clear hp
 go_enter Tryz.func57, Tryz.ntmps57
 go_wp2_with fail
 refine (Check_any A n cap inc delay ps _ hn (hP.out)).mono ?_
 rintro e w1 ⟨c, rfl, hc, hb⟩
 obtain rfl : c = 0 := hc.2 H.out
 clear hc
 obtain ⟨hcell, hfr⟩ := bcell hb
 have hs := hb.size
 (try simp only [World.size_alloc] at hs)
 go_wp2_with (go_at_call 47; refine (within_any _ _ _ _).mono ?_; rintro e w' ⟨rfl, rfl⟩)
 refine wp_loop_rounds 3 ?_
 rw [rounds_succ]
 go_wp2_with (go_at_call 47; refine (within_any _ _ _ _).mono ?_; rintro e w' ⟨rfl, rfl⟩)
 go_quiet ((go_at_call 47; exact still (within_any _ _ _ _) ⟨_, rfl⟩))
 go_wp2_with (go_at_call 47; refine (within_any _ _ _ _).mono ?_; rintro e w' ⟨rfl, rfl⟩)
 rw [rounds_succ]
 go_wp2_with (go_at_call 47; refine (within_any _ _ _ _).mono ?_; rintro e w' ⟨rfl, rfl⟩)
 go_quiet ((go_at_call 47; exact still (within_any _ _ _ _) ⟨_, rfl⟩))
 go_wp2_with (go_at_call 47; refine (within_any _ _ _ _).mono ?_; rintro e w' ⟨rfl, rfl⟩)
 rw [rounds_succ]
 go_wp2_with (go_at_call 47; refine (within_any _ _ _ _).mono ?_; rintro e w' ⟨rfl, rfl⟩)
 go_ret
 exact ⟨_, rfl, ⟨(fun h => by cases h), fun h => absurd h.2 HC.out⟩, below_drewN ((((Below.refl w.heap.size w).alloc (by go_size) _).alloc (by go_size) _).trans (hb.mono (by go_size))) _⟩
theorem Valid_9 (A : Option Addr) (n cap : Nat) (inc delay : Int) (ps : List (Int × Int)) (l0 l1 m0 m1 p0 p1 turn since fallen : Int) (st : Bool) (w : World) (hn : n ≤ 9223372036854775807) (hp : PerAt w w.heap.size A n ps) (hr : RuleOk n inc delay ps) (e0 : witB turn 0 1 = true) (e1 : witB fallen (-1) 1 = true) (e2 : witB since 0 100000000 = true) (e3 : witB p0 0 ((n : Int) - 1) = true) (e4 : witB m0 0 400 = true) (e5 : witB l0 0 100000000000 = true) (e6 : witB p1 0 ((n : Int) - 1) = true) (e7 : witB m1 0 400 = true) (e8 : witB l1 0 100000000000 = true) :
  Calls Tryz.prog 57 #[.agg #[.slice A n cap, .int .i64 inc, .int .i64 delay], .agg #[.int .i64 l0, .int .i64 l1, .int .i64 m0, .int .i64 m1, .int .i64 p0, .int .i64 p1, .int .i64 turn, .int .i64 since, .bool st, .int .i64 fallen]] w (ChkPost (RuleOk n inc delay ps ∧ ClkOk n l0 l1 m0 m1 p0 p1 turn since fallen) w) := by
 have H := Lib.hid hr
 clear hr
 have hn5 : n ≤ 5 := H.out.1.2
 have hn1 : 1 ≤ n := H.out.1.1
 have q0 := witB_iff.1 e0
 have q1 := witB_iff.1 e1
 have q2 := witB_iff.1 e2
 have q3 := witB_iff.1 e3
 have q4 := witB_iff.1 e4
 have q5 := witB_iff.1 e5
 have q6 := witB_iff.1 e6
 have q7 := witB_iff.1 e7
 have q8 := witB_iff.1 e8
 have HC : Hid (ClkOk n l0 l1 m0 m1 p0 p1 turn since fallen) := Lib.hid ⟨q0, q1, q2, q3, q4, q5, q6, q7, q8⟩
 clear q0
 clear q1
 clear q2
 clear q3
 clear q4
 clear q5
 clear q6
 clear q7
 clear q8
 have hP := Lib.hid ((hp.alloc (.cells #[.slice A n cap, .int .i64 inc, .int .i64 delay] 29)).alloc (.cells #[.int .i64 l0, .int .i64 l1, .int .i64 m0, .int .i64 m1, .int .i64 p0, .int .i64 p1, .int .i64 turn, .int .i64 since, .bool st, .int .i64 fallen] 44))
 clear hp
 go_enter Tryz.func57, Tryz.ntmps57
 go_wp2_with fail
 refine (Check_any A n cap inc delay ps _ hn (hP.out)).mono ?_
 rintro e w1 ⟨c, rfl, hc, hb⟩
 obtain rfl : c = 0 := hc.2 H.out
 clear hc
 obtain ⟨hcell, hfr⟩ := bcell hb
 have hs := hb.size
 (try simp only [World.size_alloc] at hs)
 go_wp2_with (go_at_call 47; refine (within_any _ _ _ _).mono ?_; rintro e w' ⟨rfl, rfl⟩)
 refine wp_loop_rounds 3 ?_
 rw [rounds_succ]
 go_wp2_with (go_at_call 47; refine (within_any _ _ _ _).mono ?_; rintro e w' ⟨rfl, rfl⟩)
 go_quiet ((go_at_call 47; exact still (within_any _ _ _ _) ⟨_, rfl⟩))
 go_wp2_with (go_at_call 47; refine (within_any _ _ _ _).mono ?_; rintro e w' ⟨rfl, rfl⟩)
 rw [rounds_succ]
 go_wp2_with (go_at_call 47; refine (within_any _ _ _ _).mono ?_; rintro e w' ⟨rfl, rfl⟩)
 go_quiet ((go_at_call 47; exact still (within_any _ _ _ _) ⟨_, rfl⟩))
 go_wp2_with (go_at_call 47; refine (within_any _ _ _ _).mono ?_; rintro e w' ⟨rfl, rfl⟩)
 rw [rounds_succ]
 go_wp2_with (go_at_call 47; refine (within_any _ _ _ _).mono ?_; rintro e w' ⟨rfl, rfl⟩)
 go_ret
 exact ⟨_, rfl, ⟨fun _ => ⟨H.out, HC.out⟩, fun _ => rfl⟩, below_drewN ((((Below.refl w.heap.size w).alloc (by go_size) _).alloc (by go_size) _).trans (hb.mono (by go_size))) _⟩
theorem Valid_any (A : Option Addr) (n cap : Nat) (inc delay : Int) (ps : List (Int × Int)) (l0 l1 m0 m1 p0 p1 turn since fallen : Int) (st : Bool) (w : World) (hn : n ≤ 9223372036854775807) (hp : PerAt w w.heap.size A n ps):
  Calls Tryz.prog 57 #[.agg #[.slice A n cap, .int .i64 inc, .int .i64 delay], .agg #[.int .i64 l0, .int .i64 l1, .int .i64 m0, .int .i64 m1, .int .i64 p0, .int .i64 p1, .int .i64 turn, .int .i64 since, .bool st, .int .i64 fallen]] w (ChkPost (RuleOk n inc delay ps ∧ ClkOk n l0 l1 m0 m1 p0 p1 turn since fallen) w) := by
 by_cases hr : RuleOk n inc delay ps
 ·cases e0 : witB turn 0 1
  ·exact Valid_0 A n cap inc delay ps l0 l1 m0 m1 p0 p1 turn since fallen st w hn hp hr e0
  ·cases e1 : witB fallen (-1) 1
   ·exact Valid_1 A n cap inc delay ps l0 l1 m0 m1 p0 p1 turn since fallen st w hn hp hr e0 e1
   ·cases e2 : witB since 0 100000000
    ·exact Valid_2 A n cap inc delay ps l0 l1 m0 m1 p0 p1 turn since fallen st w hn hp hr e0 e1 e2
    ·cases e3 : witB p0 0 ((n : Int) - 1)
     ·exact Valid_3 A n cap inc delay ps l0 l1 m0 m1 p0 p1 turn since fallen st w hn hp hr e0 e1 e2 e3
     ·cases e4 : witB m0 0 400
      ·exact Valid_4 A n cap inc delay ps l0 l1 m0 m1 p0 p1 turn since fallen st w hn hp hr e0 e1 e2 e3 e4
      ·cases e5 : witB l0 0 100000000000
       ·exact Valid_5 A n cap inc delay ps l0 l1 m0 m1 p0 p1 turn since fallen st w hn hp hr e0 e1 e2 e3 e4 e5
       ·cases e6 : witB p1 0 ((n : Int) - 1)
        ·exact Valid_6 A n cap inc delay ps l0 l1 m0 m1 p0 p1 turn since fallen st w hn hp hr e0 e1 e2 e3 e4 e5 e6
        ·cases e7 : witB m1 0 400
         ·exact Valid_7 A n cap inc delay ps l0 l1 m0 m1 p0 p1 turn since fallen st w hn hp hr e0 e1 e2 e3 e4 e5 e6 e7
         ·cases e8 : witB l1 0 100000000000
          ·exact Valid_8 A n cap inc delay ps l0 l1 m0 m1 p0 p1 turn since fallen st w hn hp hr e0 e1 e2 e3 e4 e5 e6 e7 e8
          ·exact Valid_9 A n cap inc delay ps l0 l1 m0 m1 p0 p1 turn since fallen st w hn hp hr e0 e1 e2 e3 e4 e5 e6 e7 e8
 ·exact Valid_rule A n cap inc delay ps l0 l1 m0 m1 p0 p1 turn since fallen st w hn hp hr
end Go.Proofs.YtnodagljaoonjaaGreatDoor.clk
/- The contracts of clock.used and clock.Look. -/
namespace Go.Proofs.YtnodagljaoonjaaGreatDoor.clk
open Go.ChangeShapes Go.WideShapes Go.ChangeAt Go.RowKit
set_option linter.unusedVariables false
set_option maxHeartbeats 1000000
/-- the time that a clock has used. -/
def usedZ (st : Bool) (delay since now : Int) : Int := if st = true then 0 else max 0 (now - since - delay)
theorem usedZ_b (st : Bool) (delay since now : Int) (h1 : 0 ≤ since) (h2 : 0 ≤ delay) (h3 : 0 ≤ now) (h4 : now ≤ 100000000) : 0 ≤ usedZ st delay since now ∧ usedZ st delay since now ≤ 100000000 := by
 unfold usedZ; split <;> omega
theorem used_any (A : Option Addr) (n cap : Nat) (inc delay : Int) (l0 l1 m0 m1 p0 p1 turn since fallen : Int) (st : Bool) (now : Int) (w : World) (h1 : 0 ≤ since) (h1' : since ≤ 100000000) (h2 : 0 ≤ delay) (h2' : delay ≤ 100000000) (h3 : 0 ≤ now) (h4 : now ≤ 100000000) :
  Calls Tryz.prog 58 #[.agg #[.slice A n cap, .int .i64 inc, .int .i64 delay], .agg #[.int .i64 l0, .int .i64 l1, .int .i64 m0, .int .i64 m1, .int .i64 p0, .int .i64 p1, .int .i64 turn, .int .i64 since, .bool st, .int .i64 fallen], .int .i64 now] w fun e w' => e = .returned (.int .i64 (usedZ st delay since now)) ∧ (w.alloc (.cells #[.slice A n cap, .int .i64 inc, .int .i64 delay] 29)).alloc (.cells #[.int .i64 l0, .int .i64 l1, .int .i64 m0, .int .i64 m1, .int .i64 p0, .int .i64 p1, .int .i64 turn, .int .i64 since, .bool st, .int .i64 fallen] 44) = w' := by
 cases st
 ·by_cases h : 0 < now - since - delay
  ·have H := Lib.hid (show usedZ false delay since now = now - since - delay by unfold usedZ; simp; omega)
   go_enter Tryz.func58, Tryz.ntmps58
   go_wp2
   go_ret
   exact ⟨by rw [H.out]; rfl, rfl⟩
  ·have H := Lib.hid (show usedZ false delay since now = 0 by unfold usedZ; simp; omega)
   go_enter Tryz.func58, Tryz.ntmps58
   go_wp2
   go_ret
   exact ⟨by rw [H.out]; rfl, rfl⟩
 ·have H := Lib.hid (show usedZ true delay since now = 0 by unfold usedZ; simp)
  go_enter Tryz.func58, Tryz.ntmps58
  go_wp2
  go_ret
  exact ⟨by rw [H.out]; rfl, rfl⟩
theorem Look_over (A : Option Addr) (n cap : Nat) (inc delay : Int) (ps : List (Int × Int)) (l0 l1 m0 m1 p0 p1 turn since fallen : Int) (st : Bool) (now : Int) (w : World) (hn : n ≤ 9223372036854775807) (hp : PerAt w w.heap.size A n ps)
  (hr : RuleOk n inc delay ps) (hk : ClkOk n l0 l1 m0 m1 p0 p1 turn since fallen) (e0 : witB now since 100000000 = true) (hf : 0 ≤ fallen) :
  Calls Tryz.prog 32 #[.agg #[.slice A n cap, .int .i64 inc, .int .i64 delay], .agg #[.int .i64 l0, .int .i64 l1, .int .i64 m0, .int .i64 m1, .int .i64 p0, .int .i64 p1, .int .i64 turn, .int .i64 since, .bool st, .int .i64 fallen], .int .i64 now] w
   (fun e w' => e = .returned (.tuple #[.agg #[.int .i64 l0, .int .i64 l1, .int .i64 m0, .int .i64 m1, .int .i64 p0, .int .i64 p1, .int .i64 turn, .int .i64 since, .bool st, .int .i64 fallen], .int .i64 0]) ∧ Below w.heap.size w w') := by
 have H := Lib.hid hr
 have HC := Lib.hid hk
 clear hr hk
 have hf' : decide (fallen < 0) = false := by simp; omega
 have hP := Lib.hid (((hp.alloc (.cells #[.slice A n cap, .int .i64 inc, .int .i64 delay] 29)).alloc (.cells #[.int .i64 l0, .int .i64 l1, .int .i64 m0, .int .i64 m1, .int .i64 p0, .int .i64 p1, .int .i64 turn, .int .i64 since, .bool st, .int .i64 fallen] 44)).alloc (.cells #[.int .i64 0, .int .i64 0, .int .i64 0, .int .i64 0, .int .i64 0, .int .i64 0, .int .i64 0, .int .i64 0, .bool false, .int .i64 0] 44))
 clear hp
 go_enter Tryz.func32, Tryz.ntmps32
 go_wp2_with fail
 refine (Valid_any A n cap inc delay ps l0 l1 m0 m1 p0 p1 turn since fallen st _ hn (hP.out)).mono ?_
 rintro e w1 ⟨c, rfl, hc, hb⟩
 obtain rfl : c = 0 := hc.2 ⟨H.out, HC.out⟩
 clear hc
 obtain ⟨hcell, hfr⟩ := bcell hb
 have hs := hb.size
 (try simp only [World.size_alloc] at hs)
 have hz0 : w.heap.size < w1.heap.size := by omega
 have hz1 : w.heap.size + 1 < w1.heap.size := by omega
 have hz2 : w.heap.size + 1 + 1 < w1.heap.size := by omega
 have hbel := (((((Below.refl w.heap.size w).alloc (by go_size) _).alloc (by go_size) _).alloc (by go_size) _).trans (hb.mono (by go_size)))
 go_wp2_with (go_at_call 47; refine (within_any _ _ _ _).mono ?_; rintro e w' ⟨rfl, rfl⟩)
 go_quiet (fail)
 go_wp2
 refine bodyPost_ret (v := .tuple #[.agg #[.int .i64 l0, .int .i64 l1, .int .i64 m0, .int .i64 m1, .int .i64 p0, .int .i64 p1, .int .i64 turn, .int .i64 since, .bool st, .int .i64 fallen], .int .i64 0]) (by simp [results, Tryz.results32, go_sem, hcell]) rfl ?_
 have hbel2 := below_drewN hbel nq
 refine ⟨rfl, ?_⟩
 go_grown
theorem Look_stay_0 (A : Option Addr) (n cap : Nat) (inc delay : Int) (ps : List (Int × Int)) (l0 l1 m0 m1 p0 p1 since fallen : Int) (st : Bool) (now : Int) (w : World) (hn : n ≤ 9223372036854775807) (hp : PerAt w w.heap.size A n ps)
  (hr : RuleOk n inc delay ps) (hk : ClkOk n l0 l1 m0 m1 p0 p1 0 since fallen) (e0 : witB now since 100000000 = true) (hf : fallen < 0) (hu : usedZ st delay since now ≤ l0) :
  Calls Tryz.prog 32 #[.agg #[.slice A n cap, .int .i64 inc, .int .i64 delay], .agg #[.int .i64 l0, .int .i64 l1, .int .i64 m0, .int .i64 m1, .int .i64 p0, .int .i64 p1, .int .i64 0, .int .i64 since, .bool st, .int .i64 fallen], .int .i64 now] w
   (fun e w' => e = .returned (.tuple #[.agg #[.int .i64 l0, .int .i64 l1, .int .i64 m0, .int .i64 m1, .int .i64 p0, .int .i64 p1, .int .i64 0, .int .i64 since, .bool st, .int .i64 fallen], .int .i64 0]) ∧ Below w.heap.size w w') := by
 have hnow := witB_iff.1 e0
 have hsn := hk.2.2.1
 have hdl := hr.2.2.1
 have H := Lib.hid hr
 have HC := Lib.hid hk
 clear hr hk
 have hf' : decide (fallen < 0) = true := by simp; omega
 have hP := Lib.hid (((hp.alloc (.cells #[.slice A n cap, .int .i64 inc, .int .i64 delay] 29)).alloc (.cells #[.int .i64 l0, .int .i64 l1, .int .i64 m0, .int .i64 m1, .int .i64 p0, .int .i64 p1, .int .i64 0, .int .i64 since, .bool st, .int .i64 fallen] 44)).alloc (.cells #[.int .i64 0, .int .i64 0, .int .i64 0, .int .i64 0, .int .i64 0, .int .i64 0, .int .i64 0, .int .i64 0, .bool false, .int .i64 0] 44))
 clear hp
 go_enter Tryz.func32, Tryz.ntmps32
 go_wp2_with fail
 refine (Valid_any A n cap inc delay ps l0 l1 m0 m1 p0 p1 0 since fallen st _ hn (hP.out)).mono ?_
 rintro e w1 ⟨c, rfl, hc, hb⟩
 obtain rfl : c = 0 := hc.2 ⟨H.out, HC.out⟩
 clear hc
 obtain ⟨hcell, hfr⟩ := bcell hb
 have hs := hb.size
 (try simp only [World.size_alloc] at hs)
 have hz0 : w.heap.size < w1.heap.size := by omega
 have hz1 : w.heap.size + 1 < w1.heap.size := by omega
 have hz2 : w.heap.size + 1 + 1 < w1.heap.size := by omega
 have hbel := (((((Below.refl w.heap.size w).alloc (by go_size) _).alloc (by go_size) _).alloc (by go_size) _).trans (hb.mono (by go_size)))
 go_wp2_with (go_at_call 47; refine (within_any _ _ _ _).mono ?_; rintro e w' ⟨rfl, rfl⟩)
 have c0 : w1.cell? ⟨w.heap.size, 0, none⟩ = some (.slice A n cap) := by simp [hcell, go_sem]
 have c1 : w1.cell? ⟨w.heap.size, 1, none⟩ = some (.int .i64 inc) := by simp [hcell, go_sem]
 have c2 : w1.cell? ⟨w.heap.size, 2, none⟩ = some (.int .i64 delay) := by simp [hcell, go_sem]
 have c3 : w1.cell? ⟨w.heap.size + 1, 0, none⟩ = some (.int .i64 l0) := by simp [hcell, go_sem]
 have c4 : w1.cell? ⟨w.heap.size + 1, 1, none⟩ = some (.int .i64 l1) := by simp [hcell, go_sem]
 have c5 : w1.cell? ⟨w.heap.size + 1, 2, none⟩ = some (.int .i64 m0) := by simp [hcell, go_sem]
 have c6 : w1.cell? ⟨w.heap.size + 1, 3, none⟩ = some (.int .i64 m1) := by simp [hcell, go_sem]
 have c7 : w1.cell? ⟨w.heap.size + 1, 4, none⟩ = some (.int .i64 p0) := by simp [hcell, go_sem]
 have c8 : w1.cell? ⟨w.heap.size + 1, 5, none⟩ = some (.int .i64 p1) := by simp [hcell, go_sem]
 have c9 : w1.cell? ⟨w.heap.size + 1, 6, none⟩ = some (.int .i64 0) := by simp [hcell, go_sem]
 have c10 : w1.cell? ⟨w.heap.size + 1, 7, none⟩ = some (.int .i64 since) := by simp [hcell, go_sem]
 have c11 : w1.cell? ⟨w.heap.size + 1, 8, none⟩ = some (.bool st) := by simp [hcell, go_sem]
 have c12 : w1.cell? ⟨w.heap.size + 1, 9, none⟩ = some (.int .i64 fallen) := by simp [hcell, go_sem]
 have Hcell := Lib.hid hcell
 have Hfr := Lib.hid hfr
 clear hcell hfr
 go_region_held3 (fun w' => w'.cell? ⟨w.heap.size, 0, none⟩ = some (.slice A n cap) ∧ w'.cell? ⟨w.heap.size, 1, none⟩ = some (.int .i64 inc) ∧ w'.cell? ⟨w.heap.size, 2, none⟩ = some (.int .i64 delay) ∧ w'.cell? ⟨w.heap.size + 1, 0, none⟩ = some (.int .i64 l0) ∧ w'.cell? ⟨w.heap.size + 1, 1, none⟩ = some (.int .i64 l1) ∧ w'.cell? ⟨w.heap.size + 1, 2, none⟩ = some (.int .i64 m0) ∧ w'.cell? ⟨w.heap.size + 1, 3, none⟩ = some (.int .i64 m1) ∧ w'.cell? ⟨w.heap.size + 1, 4, none⟩ = some (.int .i64 p0) ∧ w'.cell? ⟨w.heap.size + 1, 5, none⟩ = some (.int .i64 p1) ∧ w'.cell? ⟨w.heap.size + 1, 6, none⟩ = some (.int .i64 0) ∧ w'.cell? ⟨w.heap.size + 1, 7, none⟩ = some (.int .i64 since) ∧ w'.cell? ⟨w.heap.size + 1, 8, none⟩ = some (.bool st) ∧ w'.cell? ⟨w.heap.size + 1, 9, none⟩ = some (.int .i64 fallen)) (go_keep) (first | (go_at_call 58; refine (used_any A n cap inc delay l0 l1 m0 m1 p0 p1 0 since fallen st now _ (by omega) (by omega) (by omega) (by omega) (by omega) (by omega)).mono ?_; rintro e w' ⟨rfl, rfl⟩))
 generalize hW2 : ((w1.alloc (.cells #[.slice A n cap, .int .i64 inc, .int .i64 delay] 29)).alloc (.cells #[.int .i64 l0, .int .i64 l1, .int .i64 m0, .int .i64 m1, .int .i64 p0, .int .i64 p1, .int .i64 0, .int .i64 since, .bool st, .int .i64 fallen] 44)).drew = w2
 have hb2 : Below (((w.alloc (.cells #[.slice A n cap, .int .i64 inc, .int .i64 delay] 29)).alloc (.cells #[.int .i64 l0, .int .i64 l1, .int .i64 m0, .int .i64 m1, .int .i64 p0, .int .i64 p1, .int .i64 0, .int .i64 since, .bool st, .int .i64 fallen] 44)).alloc (.cells #[.int .i64 0, .int .i64 0, .int .i64 0, .int .i64 0, .int .i64 0, .int .i64 0, .int .i64 0, .int .i64 0, .bool false, .int .i64 0] 44)).heap.size (((w.alloc (.cells #[.slice A n cap, .int .i64 inc, .int .i64 delay] 29)).alloc (.cells #[.int .i64 l0, .int .i64 l1, .int .i64 m0, .int .i64 m1, .int .i64 p0, .int .i64 p1, .int .i64 0, .int .i64 since, .bool st, .int .i64 fallen] 44)).alloc (.cells #[.int .i64 0, .int .i64 0, .int .i64 0, .int .i64 0, .int .i64 0, .int .i64 0, .int .i64 0, .int .i64 0, .bool false, .int .i64 0] 44)) w2 := by rw [← hW2]; exact ((hb.alloc (by go_size) _).alloc (by go_size) _).drew
 clear hW2 Hcell Hfr hbel hs hz0 hz1 hz2
 obtain ⟨hcell, hfr⟩ := bcell hb2
 have hs := hb2.size
 (try simp only [World.size_alloc] at hs)
 have hz0 : w.heap.size < w2.heap.size := by omega
 have hz1 : w.heap.size + 1 < w2.heap.size := by omega
 have hz2 : w.heap.size + 1 + 1 < w2.heap.size := by omega
 have hbel := (((((Below.refl w.heap.size w).alloc (by go_size) _).alloc (by go_size) _).alloc (by go_size) _).trans (hb2.mono (by go_size)))
 clear c0 c1 c2 c3 c4 c5 c6 c7 c8 c9 c10 c11 c12
 go_wp2
 refine bodyPost_ret (v := .tuple #[.agg #[.int .i64 l0, .int .i64 l1, .int .i64 m0, .int .i64 m1, .int .i64 p0, .int .i64 p1, .int .i64 0, .int .i64 since, .bool st, .int .i64 fallen], .int .i64 0]) (by simp [results, Tryz.results32, go_sem, hcell]) rfl ?_
 refine ⟨rfl, ?_⟩
 go_grown
theorem Look_fall_0 (A : Option Addr) (n cap : Nat) (inc delay : Int) (ps : List (Int × Int)) (l0 l1 m0 m1 p0 p1 since fallen : Int) (st : Bool) (now : Int) (w : World) (hn : n ≤ 9223372036854775807) (hp : PerAt w w.heap.size A n ps)
  (hr : RuleOk n inc delay ps) (hk : ClkOk n l0 l1 m0 m1 p0 p1 0 since fallen) (e0 : witB now since 100000000 = true) (hf : fallen < 0) (hu : l0 < usedZ st delay since now) :
  Calls Tryz.prog 32 #[.agg #[.slice A n cap, .int .i64 inc, .int .i64 delay], .agg #[.int .i64 l0, .int .i64 l1, .int .i64 m0, .int .i64 m1, .int .i64 p0, .int .i64 p1, .int .i64 0, .int .i64 since, .bool st, .int .i64 fallen], .int .i64 now] w
   (fun e w' => e = .returned (.tuple #[.agg #[.int .i64 0, .int .i64 l1, .int .i64 m0, .int .i64 m1, .int .i64 p0, .int .i64 p1, .int .i64 0, .int .i64 since, .bool st, .int .i64 0], .int .i64 0]) ∧ Below w.heap.size w w') := by
 have hnow := witB_iff.1 e0
 have hsn := hk.2.2.1
 have hdl := hr.2.2.1
 have H := Lib.hid hr
 have HC := Lib.hid hk
 clear hr hk
 have hf' : decide (fallen < 0) = true := by simp; omega
 have hP := Lib.hid (((hp.alloc (.cells #[.slice A n cap, .int .i64 inc, .int .i64 delay] 29)).alloc (.cells #[.int .i64 l0, .int .i64 l1, .int .i64 m0, .int .i64 m1, .int .i64 p0, .int .i64 p1, .int .i64 0, .int .i64 since, .bool st, .int .i64 fallen] 44)).alloc (.cells #[.int .i64 0, .int .i64 0, .int .i64 0, .int .i64 0, .int .i64 0, .int .i64 0, .int .i64 0, .int .i64 0, .bool false, .int .i64 0] 44))
 clear hp
 go_enter Tryz.func32, Tryz.ntmps32
 go_wp2_with fail
 refine (Valid_any A n cap inc delay ps l0 l1 m0 m1 p0 p1 0 since fallen st _ hn (hP.out)).mono ?_
 rintro e w1 ⟨c, rfl, hc, hb⟩
 obtain rfl : c = 0 := hc.2 ⟨H.out, HC.out⟩
 clear hc
 obtain ⟨hcell, hfr⟩ := bcell hb
 have hs := hb.size
 (try simp only [World.size_alloc] at hs)
 have hz0 : w.heap.size < w1.heap.size := by omega
 have hz1 : w.heap.size + 1 < w1.heap.size := by omega
 have hz2 : w.heap.size + 1 + 1 < w1.heap.size := by omega
 have hbel := (((((Below.refl w.heap.size w).alloc (by go_size) _).alloc (by go_size) _).alloc (by go_size) _).trans (hb.mono (by go_size)))
 go_wp2_with (go_at_call 47; refine (within_any _ _ _ _).mono ?_; rintro e w' ⟨rfl, rfl⟩)
 have c0 : w1.cell? ⟨w.heap.size, 0, none⟩ = some (.slice A n cap) := by simp [hcell, go_sem]
 have c1 : w1.cell? ⟨w.heap.size, 1, none⟩ = some (.int .i64 inc) := by simp [hcell, go_sem]
 have c2 : w1.cell? ⟨w.heap.size, 2, none⟩ = some (.int .i64 delay) := by simp [hcell, go_sem]
 have c3 : w1.cell? ⟨w.heap.size + 1, 0, none⟩ = some (.int .i64 l0) := by simp [hcell, go_sem]
 have c4 : w1.cell? ⟨w.heap.size + 1, 1, none⟩ = some (.int .i64 l1) := by simp [hcell, go_sem]
 have c5 : w1.cell? ⟨w.heap.size + 1, 2, none⟩ = some (.int .i64 m0) := by simp [hcell, go_sem]
 have c6 : w1.cell? ⟨w.heap.size + 1, 3, none⟩ = some (.int .i64 m1) := by simp [hcell, go_sem]
 have c7 : w1.cell? ⟨w.heap.size + 1, 4, none⟩ = some (.int .i64 p0) := by simp [hcell, go_sem]
 have c8 : w1.cell? ⟨w.heap.size + 1, 5, none⟩ = some (.int .i64 p1) := by simp [hcell, go_sem]
 have c9 : w1.cell? ⟨w.heap.size + 1, 6, none⟩ = some (.int .i64 0) := by simp [hcell, go_sem]
 have c10 : w1.cell? ⟨w.heap.size + 1, 7, none⟩ = some (.int .i64 since) := by simp [hcell, go_sem]
 have c11 : w1.cell? ⟨w.heap.size + 1, 8, none⟩ = some (.bool st) := by simp [hcell, go_sem]
 have c12 : w1.cell? ⟨w.heap.size + 1, 9, none⟩ = some (.int .i64 fallen) := by simp [hcell, go_sem]
 have Hcell := Lib.hid hcell
 have Hfr := Lib.hid hfr
 clear hcell hfr
 go_region_held3 (fun w' => w'.cell? ⟨w.heap.size, 0, none⟩ = some (.slice A n cap) ∧ w'.cell? ⟨w.heap.size, 1, none⟩ = some (.int .i64 inc) ∧ w'.cell? ⟨w.heap.size, 2, none⟩ = some (.int .i64 delay) ∧ w'.cell? ⟨w.heap.size + 1, 0, none⟩ = some (.int .i64 l0) ∧ w'.cell? ⟨w.heap.size + 1, 1, none⟩ = some (.int .i64 l1) ∧ w'.cell? ⟨w.heap.size + 1, 2, none⟩ = some (.int .i64 m0) ∧ w'.cell? ⟨w.heap.size + 1, 3, none⟩ = some (.int .i64 m1) ∧ w'.cell? ⟨w.heap.size + 1, 4, none⟩ = some (.int .i64 p0) ∧ w'.cell? ⟨w.heap.size + 1, 5, none⟩ = some (.int .i64 p1) ∧ w'.cell? ⟨w.heap.size + 1, 6, none⟩ = some (.int .i64 0) ∧ w'.cell? ⟨w.heap.size + 1, 7, none⟩ = some (.int .i64 since) ∧ w'.cell? ⟨w.heap.size + 1, 8, none⟩ = some (.bool st) ∧ w'.cell? ⟨w.heap.size + 1, 9, none⟩ = some (.int .i64 fallen)) (go_keep) (first | (go_at_call 58; refine (used_any A n cap inc delay l0 l1 m0 m1 p0 p1 0 since fallen st now _ (by omega) (by omega) (by omega) (by omega) (by omega) (by omega)).mono ?_; rintro e w' ⟨rfl, rfl⟩))
 generalize hW2 : ((w1.alloc (.cells #[.slice A n cap, .int .i64 inc, .int .i64 delay] 29)).alloc (.cells #[.int .i64 l0, .int .i64 l1, .int .i64 m0, .int .i64 m1, .int .i64 p0, .int .i64 p1, .int .i64 0, .int .i64 since, .bool st, .int .i64 fallen] 44)).drew = w2
 have hb2 : Below (((w.alloc (.cells #[.slice A n cap, .int .i64 inc, .int .i64 delay] 29)).alloc (.cells #[.int .i64 l0, .int .i64 l1, .int .i64 m0, .int .i64 m1, .int .i64 p0, .int .i64 p1, .int .i64 0, .int .i64 since, .bool st, .int .i64 fallen] 44)).alloc (.cells #[.int .i64 0, .int .i64 0, .int .i64 0, .int .i64 0, .int .i64 0, .int .i64 0, .int .i64 0, .int .i64 0, .bool false, .int .i64 0] 44)).heap.size (((w.alloc (.cells #[.slice A n cap, .int .i64 inc, .int .i64 delay] 29)).alloc (.cells #[.int .i64 l0, .int .i64 l1, .int .i64 m0, .int .i64 m1, .int .i64 p0, .int .i64 p1, .int .i64 0, .int .i64 since, .bool st, .int .i64 fallen] 44)).alloc (.cells #[.int .i64 0, .int .i64 0, .int .i64 0, .int .i64 0, .int .i64 0, .int .i64 0, .int .i64 0, .int .i64 0, .bool false, .int .i64 0] 44)) w2 := by rw [← hW2]; exact ((hb.alloc (by go_size) _).alloc (by go_size) _).drew
 clear hW2 Hcell Hfr hbel hs hz0 hz1 hz2
 obtain ⟨hcell, hfr⟩ := bcell hb2
 have hs := hb2.size
 (try simp only [World.size_alloc] at hs)
 have hz0 : w.heap.size < w2.heap.size := by omega
 have hz1 : w.heap.size + 1 < w2.heap.size := by omega
 have hz2 : w.heap.size + 1 + 1 < w2.heap.size := by omega
 have hbel := (((((Below.refl w.heap.size w).alloc (by go_size) _).alloc (by go_size) _).alloc (by go_size) _).trans (hb2.mono (by go_size)))
 clear c0 c1 c2 c3 c4 c5 c6 c7 c8 c9 c10 c11 c12
 go_wp2
 refine bodyPost_ret (v := .tuple #[.agg #[.int .i64 0, .int .i64 l1, .int .i64 m0, .int .i64 m1, .int .i64 p0, .int .i64 p1, .int .i64 0, .int .i64 since, .bool st, .int .i64 0], .int .i64 0]) (by simp [results, Tryz.results32, go_sem, hcell]) rfl ?_
 refine ⟨rfl, ?_⟩
 go_grown
theorem Look_stay_1 (A : Option Addr) (n cap : Nat) (inc delay : Int) (ps : List (Int × Int)) (l0 l1 m0 m1 p0 p1 since fallen : Int) (st : Bool) (now : Int) (w : World) (hn : n ≤ 9223372036854775807) (hp : PerAt w w.heap.size A n ps)
  (hr : RuleOk n inc delay ps) (hk : ClkOk n l0 l1 m0 m1 p0 p1 1 since fallen) (e0 : witB now since 100000000 = true) (hf : fallen < 0) (hu : usedZ st delay since now ≤ l1) :
  Calls Tryz.prog 32 #[.agg #[.slice A n cap, .int .i64 inc, .int .i64 delay], .agg #[.int .i64 l0, .int .i64 l1, .int .i64 m0, .int .i64 m1, .int .i64 p0, .int .i64 p1, .int .i64 1, .int .i64 since, .bool st, .int .i64 fallen], .int .i64 now] w
   (fun e w' => e = .returned (.tuple #[.agg #[.int .i64 l0, .int .i64 l1, .int .i64 m0, .int .i64 m1, .int .i64 p0, .int .i64 p1, .int .i64 1, .int .i64 since, .bool st, .int .i64 fallen], .int .i64 0]) ∧ Below w.heap.size w w') := by
 have hnow := witB_iff.1 e0
 have hsn := hk.2.2.1
 have hdl := hr.2.2.1
 have H := Lib.hid hr
 have HC := Lib.hid hk
 clear hr hk
 have hf' : decide (fallen < 0) = true := by simp; omega
 have hP := Lib.hid (((hp.alloc (.cells #[.slice A n cap, .int .i64 inc, .int .i64 delay] 29)).alloc (.cells #[.int .i64 l0, .int .i64 l1, .int .i64 m0, .int .i64 m1, .int .i64 p0, .int .i64 p1, .int .i64 1, .int .i64 since, .bool st, .int .i64 fallen] 44)).alloc (.cells #[.int .i64 0, .int .i64 0, .int .i64 0, .int .i64 0, .int .i64 0, .int .i64 0, .int .i64 0, .int .i64 0, .bool false, .int .i64 0] 44))
 clear hp
 go_enter Tryz.func32, Tryz.ntmps32
 go_wp2_with fail
 refine (Valid_any A n cap inc delay ps l0 l1 m0 m1 p0 p1 1 since fallen st _ hn (hP.out)).mono ?_
 rintro e w1 ⟨c, rfl, hc, hb⟩
 obtain rfl : c = 0 := hc.2 ⟨H.out, HC.out⟩
 clear hc
 obtain ⟨hcell, hfr⟩ := bcell hb
 have hs := hb.size
 (try simp only [World.size_alloc] at hs)
 have hz0 : w.heap.size < w1.heap.size := by omega
 have hz1 : w.heap.size + 1 < w1.heap.size := by omega
 have hz2 : w.heap.size + 1 + 1 < w1.heap.size := by omega
 have hbel := (((((Below.refl w.heap.size w).alloc (by go_size) _).alloc (by go_size) _).alloc (by go_size) _).trans (hb.mono (by go_size)))
 go_wp2_with (go_at_call 47; refine (within_any _ _ _ _).mono ?_; rintro e w' ⟨rfl, rfl⟩)
 have c0 : w1.cell? ⟨w.heap.size, 0, none⟩ = some (.slice A n cap) := by simp [hcell, go_sem]
 have c1 : w1.cell? ⟨w.heap.size, 1, none⟩ = some (.int .i64 inc) := by simp [hcell, go_sem]
 have c2 : w1.cell? ⟨w.heap.size, 2, none⟩ = some (.int .i64 delay) := by simp [hcell, go_sem]
 have c3 : w1.cell? ⟨w.heap.size + 1, 0, none⟩ = some (.int .i64 l0) := by simp [hcell, go_sem]
 have c4 : w1.cell? ⟨w.heap.size + 1, 1, none⟩ = some (.int .i64 l1) := by simp [hcell, go_sem]
 have c5 : w1.cell? ⟨w.heap.size + 1, 2, none⟩ = some (.int .i64 m0) := by simp [hcell, go_sem]
 have c6 : w1.cell? ⟨w.heap.size + 1, 3, none⟩ = some (.int .i64 m1) := by simp [hcell, go_sem]
 have c7 : w1.cell? ⟨w.heap.size + 1, 4, none⟩ = some (.int .i64 p0) := by simp [hcell, go_sem]
 have c8 : w1.cell? ⟨w.heap.size + 1, 5, none⟩ = some (.int .i64 p1) := by simp [hcell, go_sem]
 have c9 : w1.cell? ⟨w.heap.size + 1, 6, none⟩ = some (.int .i64 1) := by simp [hcell, go_sem]
 have c10 : w1.cell? ⟨w.heap.size + 1, 7, none⟩ = some (.int .i64 since) := by simp [hcell, go_sem]
 have c11 : w1.cell? ⟨w.heap.size + 1, 8, none⟩ = some (.bool st) := by simp [hcell, go_sem]
 have c12 : w1.cell? ⟨w.heap.size + 1, 9, none⟩ = some (.int .i64 fallen) := by simp [hcell, go_sem]
 have Hcell := Lib.hid hcell
 have Hfr := Lib.hid hfr
 clear hcell hfr
 go_region_held3 (fun w' => w'.cell? ⟨w.heap.size, 0, none⟩ = some (.slice A n cap) ∧ w'.cell? ⟨w.heap.size, 1, none⟩ = some (.int .i64 inc) ∧ w'.cell? ⟨w.heap.size, 2, none⟩ = some (.int .i64 delay) ∧ w'.cell? ⟨w.heap.size + 1, 0, none⟩ = some (.int .i64 l0) ∧ w'.cell? ⟨w.heap.size + 1, 1, none⟩ = some (.int .i64 l1) ∧ w'.cell? ⟨w.heap.size + 1, 2, none⟩ = some (.int .i64 m0) ∧ w'.cell? ⟨w.heap.size + 1, 3, none⟩ = some (.int .i64 m1) ∧ w'.cell? ⟨w.heap.size + 1, 4, none⟩ = some (.int .i64 p0) ∧ w'.cell? ⟨w.heap.size + 1, 5, none⟩ = some (.int .i64 p1) ∧ w'.cell? ⟨w.heap.size + 1, 6, none⟩ = some (.int .i64 1) ∧ w'.cell? ⟨w.heap.size + 1, 7, none⟩ = some (.int .i64 since) ∧ w'.cell? ⟨w.heap.size + 1, 8, none⟩ = some (.bool st) ∧ w'.cell? ⟨w.heap.size + 1, 9, none⟩ = some (.int .i64 fallen)) (go_keep) (first | (go_at_call 58; refine (used_any A n cap inc delay l0 l1 m0 m1 p0 p1 1 since fallen st now _ (by omega) (by omega) (by omega) (by omega) (by omega) (by omega)).mono ?_; rintro e w' ⟨rfl, rfl⟩))
 generalize hW2 : ((w1.alloc (.cells #[.slice A n cap, .int .i64 inc, .int .i64 delay] 29)).alloc (.cells #[.int .i64 l0, .int .i64 l1, .int .i64 m0, .int .i64 m1, .int .i64 p0, .int .i64 p1, .int .i64 1, .int .i64 since, .bool st, .int .i64 fallen] 44)).drew = w2
 have hb2 : Below (((w.alloc (.cells #[.slice A n cap, .int .i64 inc, .int .i64 delay] 29)).alloc (.cells #[.int .i64 l0, .int .i64 l1, .int .i64 m0, .int .i64 m1, .int .i64 p0, .int .i64 p1, .int .i64 1, .int .i64 since, .bool st, .int .i64 fallen] 44)).alloc (.cells #[.int .i64 0, .int .i64 0, .int .i64 0, .int .i64 0, .int .i64 0, .int .i64 0, .int .i64 0, .int .i64 0, .bool false, .int .i64 0] 44)).heap.size (((w.alloc (.cells #[.slice A n cap, .int .i64 inc, .int .i64 delay] 29)).alloc (.cells #[.int .i64 l0, .int .i64 l1, .int .i64 m0, .int .i64 m1, .int .i64 p0, .int .i64 p1, .int .i64 1, .int .i64 since, .bool st, .int .i64 fallen] 44)).alloc (.cells #[.int .i64 0, .int .i64 0, .int .i64 0, .int .i64 0, .int .i64 0, .int .i64 0, .int .i64 0, .int .i64 0, .bool false, .int .i64 0] 44)) w2 := by rw [← hW2]; exact ((hb.alloc (by go_size) _).alloc (by go_size) _).drew
 clear hW2 Hcell Hfr hbel hs hz0 hz1 hz2
 obtain ⟨hcell, hfr⟩ := bcell hb2
 have hs := hb2.size
 (try simp only [World.size_alloc] at hs)
 have hz0 : w.heap.size < w2.heap.size := by omega
 have hz1 : w.heap.size + 1 < w2.heap.size := by omega
 have hz2 : w.heap.size + 1 + 1 < w2.heap.size := by omega
 have hbel := (((((Below.refl w.heap.size w).alloc (by go_size) _).alloc (by go_size) _).alloc (by go_size) _).trans (hb2.mono (by go_size)))
 clear c0 c1 c2 c3 c4 c5 c6 c7 c8 c9 c10 c11 c12
 go_wp2
 refine bodyPost_ret (v := .tuple #[.agg #[.int .i64 l0, .int .i64 l1, .int .i64 m0, .int .i64 m1, .int .i64 p0, .int .i64 p1, .int .i64 1, .int .i64 since, .bool st, .int .i64 fallen], .int .i64 0]) (by simp [results, Tryz.results32, go_sem, hcell]) rfl ?_
 refine ⟨rfl, ?_⟩
 go_grown
theorem Look_fall_1 (A : Option Addr) (n cap : Nat) (inc delay : Int) (ps : List (Int × Int)) (l0 l1 m0 m1 p0 p1 since fallen : Int) (st : Bool) (now : Int) (w : World) (hn : n ≤ 9223372036854775807) (hp : PerAt w w.heap.size A n ps)
  (hr : RuleOk n inc delay ps) (hk : ClkOk n l0 l1 m0 m1 p0 p1 1 since fallen) (e0 : witB now since 100000000 = true) (hf : fallen < 0) (hu : l1 < usedZ st delay since now) :
  Calls Tryz.prog 32 #[.agg #[.slice A n cap, .int .i64 inc, .int .i64 delay], .agg #[.int .i64 l0, .int .i64 l1, .int .i64 m0, .int .i64 m1, .int .i64 p0, .int .i64 p1, .int .i64 1, .int .i64 since, .bool st, .int .i64 fallen], .int .i64 now] w
   (fun e w' => e = .returned (.tuple #[.agg #[.int .i64 l0, .int .i64 0, .int .i64 m0, .int .i64 m1, .int .i64 p0, .int .i64 p1, .int .i64 1, .int .i64 since, .bool st, .int .i64 1], .int .i64 0]) ∧ Below w.heap.size w w') := by
 have hnow := witB_iff.1 e0
 have hsn := hk.2.2.1
 have hdl := hr.2.2.1
 have H := Lib.hid hr
 have HC := Lib.hid hk
 clear hr hk
 have hf' : decide (fallen < 0) = true := by simp; omega
 have hP := Lib.hid (((hp.alloc (.cells #[.slice A n cap, .int .i64 inc, .int .i64 delay] 29)).alloc (.cells #[.int .i64 l0, .int .i64 l1, .int .i64 m0, .int .i64 m1, .int .i64 p0, .int .i64 p1, .int .i64 1, .int .i64 since, .bool st, .int .i64 fallen] 44)).alloc (.cells #[.int .i64 0, .int .i64 0, .int .i64 0, .int .i64 0, .int .i64 0, .int .i64 0, .int .i64 0, .int .i64 0, .bool false, .int .i64 0] 44))
 clear hp
 go_enter Tryz.func32, Tryz.ntmps32
 go_wp2_with fail
 refine (Valid_any A n cap inc delay ps l0 l1 m0 m1 p0 p1 1 since fallen st _ hn (hP.out)).mono ?_
 rintro e w1 ⟨c, rfl, hc, hb⟩
 obtain rfl : c = 0 := hc.2 ⟨H.out, HC.out⟩
 clear hc
 obtain ⟨hcell, hfr⟩ := bcell hb
 have hs := hb.size
 (try simp only [World.size_alloc] at hs)
 have hz0 : w.heap.size < w1.heap.size := by omega
 have hz1 : w.heap.size + 1 < w1.heap.size := by omega
 have hz2 : w.heap.size + 1 + 1 < w1.heap.size := by omega
 have hbel := (((((Below.refl w.heap.size w).alloc (by go_size) _).alloc (by go_size) _).alloc (by go_size) _).trans (hb.mono (by go_size)))
 go_wp2_with (go_at_call 47; refine (within_any _ _ _ _).mono ?_; rintro e w' ⟨rfl, rfl⟩)
 have c0 : w1.cell? ⟨w.heap.size, 0, none⟩ = some (.slice A n cap) := by simp [hcell, go_sem]
 have c1 : w1.cell? ⟨w.heap.size, 1, none⟩ = some (.int .i64 inc) := by simp [hcell, go_sem]
 have c2 : w1.cell? ⟨w.heap.size, 2, none⟩ = some (.int .i64 delay) := by simp [hcell, go_sem]
 have c3 : w1.cell? ⟨w.heap.size + 1, 0, none⟩ = some (.int .i64 l0) := by simp [hcell, go_sem]
 have c4 : w1.cell? ⟨w.heap.size + 1, 1, none⟩ = some (.int .i64 l1) := by simp [hcell, go_sem]
 have c5 : w1.cell? ⟨w.heap.size + 1, 2, none⟩ = some (.int .i64 m0) := by simp [hcell, go_sem]
 have c6 : w1.cell? ⟨w.heap.size + 1, 3, none⟩ = some (.int .i64 m1) := by simp [hcell, go_sem]
 have c7 : w1.cell? ⟨w.heap.size + 1, 4, none⟩ = some (.int .i64 p0) := by simp [hcell, go_sem]
 have c8 : w1.cell? ⟨w.heap.size + 1, 5, none⟩ = some (.int .i64 p1) := by simp [hcell, go_sem]
 have c9 : w1.cell? ⟨w.heap.size + 1, 6, none⟩ = some (.int .i64 1) := by simp [hcell, go_sem]
 have c10 : w1.cell? ⟨w.heap.size + 1, 7, none⟩ = some (.int .i64 since) := by simp [hcell, go_sem]
 have c11 : w1.cell? ⟨w.heap.size + 1, 8, none⟩ = some (.bool st) := by simp [hcell, go_sem]
 have c12 : w1.cell? ⟨w.heap.size + 1, 9, none⟩ = some (.int .i64 fallen) := by simp [hcell, go_sem]
 have Hcell := Lib.hid hcell
 have Hfr := Lib.hid hfr
 clear hcell hfr
 go_region_held3 (fun w' => w'.cell? ⟨w.heap.size, 0, none⟩ = some (.slice A n cap) ∧ w'.cell? ⟨w.heap.size, 1, none⟩ = some (.int .i64 inc) ∧ w'.cell? ⟨w.heap.size, 2, none⟩ = some (.int .i64 delay) ∧ w'.cell? ⟨w.heap.size + 1, 0, none⟩ = some (.int .i64 l0) ∧ w'.cell? ⟨w.heap.size + 1, 1, none⟩ = some (.int .i64 l1) ∧ w'.cell? ⟨w.heap.size + 1, 2, none⟩ = some (.int .i64 m0) ∧ w'.cell? ⟨w.heap.size + 1, 3, none⟩ = some (.int .i64 m1) ∧ w'.cell? ⟨w.heap.size + 1, 4, none⟩ = some (.int .i64 p0) ∧ w'.cell? ⟨w.heap.size + 1, 5, none⟩ = some (.int .i64 p1) ∧ w'.cell? ⟨w.heap.size + 1, 6, none⟩ = some (.int .i64 1) ∧ w'.cell? ⟨w.heap.size + 1, 7, none⟩ = some (.int .i64 since) ∧ w'.cell? ⟨w.heap.size + 1, 8, none⟩ = some (.bool st) ∧ w'.cell? ⟨w.heap.size + 1, 9, none⟩ = some (.int .i64 fallen)) (go_keep) (first | (go_at_call 58; refine (used_any A n cap inc delay l0 l1 m0 m1 p0 p1 1 since fallen st now _ (by omega) (by omega) (by omega) (by omega) (by omega) (by omega)).mono ?_; rintro e w' ⟨rfl, rfl⟩))
 generalize hW2 : ((w1.alloc (.cells #[.slice A n cap, .int .i64 inc, .int .i64 delay] 29)).alloc (.cells #[.int .i64 l0, .int .i64 l1, .int .i64 m0, .int .i64 m1, .int .i64 p0, .int .i64 p1, .int .i64 1, .int .i64 since, .bool st, .int .i64 fallen] 44)).drew = w2
 have hb2 : Below (((w.alloc (.cells #[.slice A n cap, .int .i64 inc, .int .i64 delay] 29)).alloc (.cells #[.int .i64 l0, .int .i64 l1, .int .i64 m0, .int .i64 m1, .int .i64 p0, .int .i64 p1, .int .i64 1, .int .i64 since, .bool st, .int .i64 fallen] 44)).alloc (.cells #[.int .i64 0, .int .i64 0, .int .i64 0, .int .i64 0, .int .i64 0, .int .i64 0, .int .i64 0, .int .i64 0, .bool false, .int .i64 0] 44)).heap.size (((w.alloc (.cells #[.slice A n cap, .int .i64 inc, .int .i64 delay] 29)).alloc (.cells #[.int .i64 l0, .int .i64 l1, .int .i64 m0, .int .i64 m1, .int .i64 p0, .int .i64 p1, .int .i64 1, .int .i64 since, .bool st, .int .i64 fallen] 44)).alloc (.cells #[.int .i64 0, .int .i64 0, .int .i64 0, .int .i64 0, .int .i64 0, .int .i64 0, .int .i64 0, .int .i64 0, .bool false, .int .i64 0] 44)) w2 := by rw [← hW2]; exact ((hb.alloc (by go_size) _).alloc (by go_size) _).drew
 clear hW2 Hcell Hfr hbel hs hz0 hz1 hz2
 obtain ⟨hcell, hfr⟩ := bcell hb2
 have hs := hb2.size
 (try simp only [World.size_alloc] at hs)
 have hz0 : w.heap.size < w2.heap.size := by omega
 have hz1 : w.heap.size + 1 < w2.heap.size := by omega
 have hz2 : w.heap.size + 1 + 1 < w2.heap.size := by omega
 have hbel := (((((Below.refl w.heap.size w).alloc (by go_size) _).alloc (by go_size) _).alloc (by go_size) _).trans (hb2.mono (by go_size)))
 clear c0 c1 c2 c3 c4 c5 c6 c7 c8 c9 c10 c11 c12
 go_wp2
 refine bodyPost_ret (v := .tuple #[.agg #[.int .i64 l0, .int .i64 0, .int .i64 m0, .int .i64 m1, .int .i64 p0, .int .i64 p1, .int .i64 1, .int .i64 since, .bool st, .int .i64 1], .int .i64 0]) (by simp [results, Tryz.results32, go_sem, hcell]) rfl ?_
 refine ⟨rfl, ?_⟩
 go_grown
end Go.Proofs.YtnodagljaoonjaaGreatDoor.clk
