/- A game's errors by the moves that are not sorted. -/
import Derived.Test.YtnieifdogllbfaaGmC
namespace Go.Proofs.Ytnieifdogllbfaa
set_option linter.unusedVariables false
def resRaw (R : RulesZ) (p : PosZ) : Int :=
  if 0 ≤ idxL (fun x => holdsZ R p x (1 - p.turn)) R.ends 0 then
    (if (R.ends.getD (idxL (fun x => holdsZ R p x (1 - p.turn)) R.ends 0).toNat default).loses = true then 1 + p.turn else 1 + (1 - p.turn))
  else if R.quiet ≠ 0 ∧ R.quiet ≤ p.quiet then 3
  else if (rawZ R p).isEmpty = false then 0
  else if R.blocked = 0 then 1 + (1 - p.turn)
  else if R.blocked = 1 then 1 + p.turn else 3
theorem list_pos (R : RulesZ) (p : PosZ) : 0 < (listZ R p).length ↔ (rawZ R p).isEmpty = false := by
  rw [List.length_pos_iff_exists_mem, List.isEmpty_eq_false_iff_exists_mem]
  exact ⟨fun ⟨m, h⟩ => ⟨m, list_mem.1 h⟩, fun ⟨m, h⟩ => ⟨m, list_mem.2 h⟩⟩
theorem res_raw (R : RulesZ) (p : PosZ) : resultZ R p = resRaw R p := by
  unfold resultZ resRaw
  simp only [list_pos]
def playRaw (R : RulesZ) (ms : List MoveZ) (m : MoveZ) : Int := if resRaw R (nowZ R ms) ≠ 0 then 14 else if m ∉ rawZ R (nowZ R ms) then 13 else if ms.length = 400 then 9 else 0
theorem game_raw {R : RulesZ} (h : R.rept = 0) (ms : List MoveZ) : gameRes R ms = resRaw R (nowZ R ms) := by
  unfold gameRes
  rw [if_neg (fun q => q.2.1 h), res_raw]
theorem play_raw {R : RulesZ} (h : R.rept = 0) (ms : List MoveZ) (m : MoveZ) : playErr R ms m = playRaw R ms m := by
  unfold playErr playRaw
  rw [game_raw h]
  simp only [list_mem]
def runRaw (R : RulesZ) : List MoveZ → List MoveZ → Int
  | _, [] => 0
  | ms, m :: t => if playRaw R ms m ≠ 0 then playRaw R ms m else runRaw R (ms ++ [m]) t
theorem run_raw {R : RulesZ} (h : R.rept = 0) : ∀ (l ms : List MoveZ), runFrom R ms l = runRaw R ms l
  | [], _ => rfl
  | m :: t, ms => by rw [runFrom, runRaw, play_raw h, run_raw h t]
end Go.Proofs.Ytnieifdogllbfaa
