/- The contracts of offer.check, offer.Plies, offer.Make. -/
import Derived.Test.YtjdnhhddjnlgiaaOffCheck
import Derived.BigRegion
import Derived.RegionTactic
import Derived.ChangeAlike
namespace Go.Proofs.Ytjdnhhddjnlgiaa
open Go.ChangeShapes Go.WideShapes Go.ChangeAt Go.RowKit
set_option linter.unusedVariables false

theorem bcell {W w1 : World} (hb : Below W.heap.size W w1) : (∀ b o, b < W.heap.size → w1.cell? ⟨b, o, none⟩ = W.cell? ⟨b, o, none⟩) ∧ (∀ b o, b < W.heap.size → w1.frozen? ⟨b, o, none⟩ = W.frozen? ⟨b, o, none⟩) :=
  ⟨fun b o h => hb.cell (p := ⟨b, o, none⟩) h, fun b o h => hb.frozen (p := ⟨b, o, none⟩) h⟩

def ArgsOk (kind player moves : Int) : Prop := (kind = 0 ∨ kind = 1) ∧ (player = 0 ∨ player = 1) ∧ 0 ≤ moves ∧ moves ≤ 400

set_option maxHeartbeats 1000000 in
theorem check_any (b0 b1 l00 l01 l10 l11 kind player moves : Int) (w : World) :
    Calls Try.prog 12 #[.agg #[.int .i64 b0, .int .i64 b1, .int .i64 l00, .int .i64 l01, .int .i64 l10, .int .i64 l11], .int .i64 kind, .int .i64 player, .int .i64 moves] w (ChkPost (OkO b0 b1 l00 l01 l10 l11 ∧ ArgsOk kind player moves) ((w.alloc (.cells #[.int .i64 b0, .int .i64 b1, .int .i64 l00, .int .i64 l01, .int .i64 l10, .int .i64 l11] 25)).alloc (.cells #[.int .i64 b0, .int .i64 b1, .int .i64 l00, .int .i64 l01, .int .i64 l10, .int .i64 l11] 25))) := by
  go_enter Try.func12, Try.ntmps12
  go_wp2_with fail
  refine (Check_any _ _ _ _ _ _ _).mono ?_
  rintro e w1 ⟨c, rfl, hc, rfl⟩
  by_cases h0 : c = 0
  · have hok := Lib.hid (hc.1 h0)
    subst h0
    clear hc
    go_wp2
    all_goals
      go_ret
      refine ⟨_, rfl, ?_, rfl⟩
      unfold ArgsOk
      first | (refine ⟨fun _ => ⟨hok.out, ?_⟩, fun _ => by trivial⟩; omega) | (refine ⟨fun h => ?_, fun h => ?_⟩ <;> omega)
  · have h1 : (c != 0) = true := by simpa using h0
    have hn := Lib.hid (fun h => h0 (hc.2 h))
    clear hc h0
    go_wp2
    go_ret
    exact ⟨_, rfl, ⟨fun h => by simp [h] at h1, fun h => absurd h.1 hn.out⟩, rfl⟩

def plies (player moves : Int) : Int := if moves % 2 = player then (if 2 ≤ moves then 2 else 0) else (if 1 ≤ moves then 1 else 0)

set_option maxHeartbeats 1000000 in
theorem Plies_any (player moves : Int) (w : World) (hp : player = 0 ∨ player = 1) (h0 : 0 ≤ moves) (h1 : moves ≤ 400) :
    Calls Try.prog 13 #[.int .i64 player, .int .i64 moves] w fun e w' => e = .returned (.int .i64 (plies player moves)) ∧ w = w' := by
  rcases hp with rfl | rfl
  all_goals
    go_enter Try.func13, Try.ntmps13
    go_wp2
    all_goals
      go_ret
      refine ⟨congrArg (fun n => Ending.returned (Value.int .i64 n)) (?_ : (_ : Int) = plies _ moves), rfl⟩
      simp only [beq_iff_eq, beq_eq_false_iff_ne] at *
      unfold plies
      split <;> (try split) <;> omega
end Go.Proofs.Ytjdnhhddjnlgiaa
