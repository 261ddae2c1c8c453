/- The contracts of clock.within and clock.Check. -/
import Derived.Test.YtpcllegmdioafaaRows
import Derived.Test.YtpcllegmdioafaaBase
import Derived.WalkKit
import Derived.ProofKit
import Derived.OpenShut
import Derived.LoopTactic
import Derived.Outline
import Derived.Lib.Hide
import Derived.Handy
namespace Go.Proofs.Ytpcllegmdioafaa
open Go.ChangeShapes Go.WideShapes Go.ChangeAt Go.RowKit
set_option linter.unusedVariables false

theorem bcell {W w1 : World} (hb : Below W.heap.size W w1) : (∀ b o, b < W.heap.size → w1.cell? ⟨b, o, none⟩ = W.cell? ⟨b, o, none⟩) ∧ (∀ b o, b < W.heap.size → w1.frozen? ⟨b, o, none⟩ = W.frozen? ⟨b, o, none⟩) :=
  ⟨fun b o h => hb.cell (p := ⟨b, o, none⟩) h, fun b o h => hb.frozen (p := ⟨b, o, none⟩) h⟩

def witB (n lo hi : Int) : Bool := decide (lo ≤ n ∧ n ≤ hi)

theorem within_any (n lo hi : Int) (w : World) :
    Calls Try.prog 16 #[.int .i64 n, .int .i64 lo, .int .i64 hi] w fun e w' => e = .returned (.bool (witB n lo hi)) ∧ w = w' := by
  by_cases h1 : lo ≤ n
  · by_cases h2 : n ≤ hi
    · have H := Lib.hid (show witB n lo hi = true by unfold witB; rw [decide_eq_true_eq]; omega)
      go_enter Try.func16, Try.ntmps16
      go_wp2
      go_ret
      exact ⟨by rw [H.out]; rfl, rfl⟩
    · have H := Lib.hid (show witB n lo hi = false by unfold witB; rw [decide_eq_false_iff_not]; omega)
      go_enter Try.func16, Try.ntmps16
      go_wp2
      go_ret
      exact ⟨by rw [H.out]; rfl, rfl⟩
  · have H := Lib.hid (show witB n lo hi = false by unfold witB; rw [decide_eq_false_iff_not]; omega)
    go_enter Try.func16, Try.ntmps16
    go_wp2
    go_ret
    exact ⟨by rw [H.out]; rfl, rfl⟩

/-- the periods of a rule lie at A below block B: n pairs. -/
def PerAt (w : World) (B : Nat) (A : Option Addr) (n : Nat) (ps : List (Int × Int)) : Prop :=
  ps.length = n ∧ (0 < n → ∃ b off, A = some ⟨b, off, none⟩ ∧ b < B ∧ ∀ k, k < n → w.cell? ⟨b, off + k * 2, none⟩ = some (.int .i64 (ps.getD k (0, 0)).1) ∧ w.cell? ⟨b, off + k * 2 + 1, none⟩ = some (.int .i64 (ps.getD k (0, 0)).2))

def perOk (n : Nat) (k : Nat) (p : Int × Int) : Bool := witB p.1 0 400 && (witB p.2 1 100000000 && ((p.1 == 0) == ((k : Int) == (n : Int) - 1)))
/-- what clock.Check accepts. -/
def RuleOk (n : Nat) (inc delay : Int) (ps : List (Int × Int)) : Prop :=
  (1 ≤ n ∧ n ≤ 5) ∧ (0 ≤ inc ∧ inc ≤ 100000000) ∧ (0 ≤ delay ∧ delay ≤ 100000000) ∧ ∀ k, k < n → perOk n k (ps.getD k (0, 0)) = true
def ChkPost (ok : Prop) (w : World) (e : Ending) (w' : World) : Prop := ∃ c : Int, e = .returned (.int .i64 c) ∧ (c = 0 ↔ ok) ∧ Below w.heap.size w w'

theorem witB_true {n lo hi : Int} (h : lo ≤ n ∧ n ≤ hi) : witB n lo hi = true := by unfold witB; simpa using h
theorem witB_false {n lo hi : Int} (h : ¬ (lo ≤ n ∧ n ≤ hi)) : witB n lo hi = false := by unfold witB; rw [decide_eq_false_iff_not]; exact h
theorem witB_iff {n lo hi : Int} : witB n lo hi = true ↔ lo ≤ n ∧ n ≤ hi := by unfold witB; simp

set_option maxHeartbeats 1000000 in
theorem Check_any (A : Option Addr) (n cap : Nat) (inc delay : Int) (ps : List (Int × Int)) (w : World) (hn : n ≤ 9223372036854775807) (hp : PerAt w w.heap.size A n ps) :
    Calls Try.prog 20 #[.agg #[.slice A n cap, .int .i64 inc, .int .i64 delay]] w (ChkPost (RuleOk n inc delay ps) w) := by
  by_cases h1 : 1 ≤ n ∧ n ≤ 5
  · obtain ⟨h1, h2⟩ := h1
    obtain ⟨hl, hp⟩ := hp
    obtain ⟨b, off, rfl, hb, hcells⟩ := hp (by omega)
    have Hc := Lib.hid hcells
    clear hl hp hcells
    have e1 : witB n 1 5 = true := witB_true (by omega)
    by_cases h3 : 0 ≤ inc ∧ inc ≤ 100000000
    · have e3 := witB_true h3
      by_cases h4 : 0 ≤ delay ∧ delay ≤ 100000000
      · have e4 := witB_true h4
        go_enter Try.func20, Try.ntmps20
        go_wp2_with (go_at_call 16; refine (within_any _ _ _ _).mono ?_; rintro e w' ⟨rfl, rfl⟩)
        go_loopw [23] (fun i wr => ∃ k : Nat, k ≤ n ∧ i = .int .i64 k ∧ Hid (∀ j, j < k → perOk n j (ps.getD j (0, 0)) = true) ∧ Below (w.alloc (.cells #[.slice (some ⟨b, off, none⟩) n cap, .int .i64 inc, .int .i64 delay] 24)).heap.size (w.alloc (.cells #[.slice (some ⟨b, off, none⟩) n cap, .int .i64 inc, .int .i64 delay] 24)) wr) (fun i _ => n - (intOf i).toNat)
        case atStart => exact ⟨0, Nat.zero_le _, rfl, Lib.hid (fun j hj => absurd hj (by omega)), Below.refl _ _⟩
        case round =>
          obtain ⟨k, hk, rfl, Hk, hbl⟩ := hrel
          obtain ⟨hcell, hfr⟩ := bcell hbl
          have hz := hbl.size
          simp at hz
          have hz1 : w.heap.size < wr.heap.size := by omega
          have hz2 : b < wr.heap.size := by omega
          by_cases hlt : k < n
          · obtain ⟨c1, c2⟩ := Hc.out k hlt
            have HS : Hid (perOk n k (ps.getD k (0, 0)) = true → ∀ j, j < k + 1 → perOk n j (ps.getD j (0, 0)) = true) := Lib.hid (fun h j hj => by
              by_cases e : j = k
              · subst e; exact h
              · exact Hk.out j (by omega))
            have HF : Hid (perOk n k (ps.getD k (0, 0)) = false → ¬ RuleOk n inc delay ps) := Lib.hid (fun h hr => by have := hr.2.2.2 k hlt; rw [h] at this; cases this)
            generalize ps.getD k (0, 0) = q at *
            obtain ⟨qm, qt⟩ := q
            go_wp2_with (go_at_call 16; refine (within_any _ _ _ _).mono ?_; rintro e w' ⟨rfl, rfl⟩)
            · have hq : perOk n k (qm, qt) = false := by simp_all [perOk]
              go_ret
              exact ⟨_, rfl, ⟨(fun h => by cases h), fun h => absurd h (HF.out hq)⟩, (((Below.refl _ _).alloc (by go_size) _).trans (hbl.mono (by go_size))).alloc (by go_size) _⟩
            · have hq : perOk n k (qm, qt) = false := by simp_all [perOk]
              go_ret
              exact ⟨_, rfl, ⟨(fun h => by cases h), fun h => absurd h (HF.out hq)⟩, (((Below.refl _ _).alloc (by go_size) _).trans (hbl.mono (by go_size))).alloc (by go_size) _⟩
            · have hq : perOk n k (qm, qt) = true := by simp_all [perOk]
              go_roundw
              case rel => exact ⟨k + 1, by omega, by go_num, Lib.hid (HS.out hq), hbl.alloc (by go_size) _⟩
              case measure => simp [intOf]; omega
            · have hq : perOk n k (qm, qt) = false := by simp_all [perOk]
              go_ret
              exact ⟨_, rfl, ⟨(fun h => by cases h), fun h => absurd h (HF.out hq)⟩, (((Below.refl _ _).alloc (by go_size) _).trans (hbl.mono (by go_size))).alloc (by go_size) _⟩
          · go_wp2
            go_ret
            refine ⟨_, rfl, ⟨fun _ => ⟨⟨h1, h2⟩, h3, h4, fun j hj => Hk.out j (by omega)⟩, fun _ => rfl⟩, ?_⟩
            exact ((Below.refl _ _).alloc (Nat.le_refl _) _).trans (hbl.mono (by go_size))
      · have e4 := witB_false h4
        go_enter Try.func20, Try.ntmps20
        go_wp2_with (go_at_call 16; refine (within_any _ _ _ _).mono ?_; rintro e w' ⟨rfl, rfl⟩)
        go_ret
        exact ⟨_, rfl, ⟨(fun h => by cases h), fun h => absurd h.2.2.1 h4⟩, by go_grown⟩
    · have e3 := witB_false h3
      go_enter Try.func20, Try.ntmps20
      go_wp2_with (go_at_call 16; refine (within_any _ _ _ _).mono ?_; rintro e w' ⟨rfl, rfl⟩)
      go_ret
      exact ⟨_, rfl, ⟨(fun h => by cases h), fun h => absurd h.2.1 h3⟩, by go_grown⟩
  · have e1 : witB n 1 5 = false := witB_false (by omega)
    have H1 := Lib.hid h1
    clear h1
    go_enter Try.func20, Try.ntmps20
    go_wp2_with (go_at_call 16; refine (within_any _ _ _ _).mono ?_; rintro e w' ⟨rfl, rfl⟩)
    go_ret
    exact ⟨_, rfl, ⟨(fun h => by cases h), fun h => absurd h.1 H1.out⟩, by go_grown⟩
end Go.Proofs.Ytpcllegmdioafaa
