/- Moves one after the other, as plain data. -/
import Derived.Test.YtkfaibdflbdpgaaMvLaw
namespace Go.Proofs.Ytkfaibdflbdpgaa
set_option linter.unusedVariables false
def posAt (R : RulesZ) (p : PosZ) (ms : List MoveZ) : PosZ := ms.foldl (makeZ R) p
theorem posAt_nil (R : RulesZ) (p : PosZ) : posAt R p [] = p := rfl
theorem posAt_snoc (R : RulesZ) (p : PosZ) (ms : List MoveZ) (m : MoveZ) : posAt R p (ms ++ [m]) = makeZ R (posAt R p ms) m := by simp [posAt]
theorem posAt_take (R : RulesZ) (p : PosZ) (ms : List MoveZ) (k : Nat) (h : k < ms.length) : posAt R p (ms.take (k + 1)) = makeZ R (posAt R p (ms.take k)) (ms.getD k default) := by
  rw [List.take_succ_eq_append_getElem h, posAt_snoc, List.getD_eq_getElem?_getD, List.getElem?_eq_getElem h]; rfl
def LegalAll (R : RulesZ) (p : PosZ) (ms : List MoveZ) : Prop := ∀ k, k < ms.length → ms.getD k default ∈ listZ R (posAt R p (ms.take k))
theorem LegalAll.nil (R : RulesZ) (p : PosZ) : LegalAll R p [] := fun k h => by simp at h
theorem LegalAll.snoc {R : RulesZ} {p : PosZ} {ms : List MoveZ} {m : MoveZ} (h : LegalAll R p ms) (hm : m ∈ listZ R (posAt R p ms)) : LegalAll R p (ms ++ [m]) := by
  intro k hk
  simp at hk
  rcases Nat.lt_or_ge k ms.length with e | e
  · rw [List.take_append_of_le_length (by omega), show (ms ++ [m]).getD k default = ms.getD k default by simp [List.getD_eq_getElem?_getD, List.getElem?_append_left e]]
    exact h k e
  · obtain rfl : k = ms.length := by omega
    rw [List.take_left, show (ms ++ [m]).getD ms.length default = m by simp [List.getD_eq_getElem?_getD]]
    exact hm
theorem posAt_ok {R : RulesZ} {p : PosZ} {ms : List MoveZ} (K : POk R p) (h : LegalAll R p ms) (k : Nat) (hk : k ≤ ms.length) : POk R (posAt R p (ms.take k)) := by
  induction k with
  | zero => exact K
  | succ k ih =>
    rw [posAt_take R p ms k (by omega)]
    exact make_ok (ih (by omega)) (h k (by omega))
end Go.Proofs.Ytkfaibdflbdpgaa
