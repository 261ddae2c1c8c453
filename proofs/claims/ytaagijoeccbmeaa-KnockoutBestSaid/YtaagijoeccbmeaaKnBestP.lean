/- Plainly: if the better player always wins, player 0 wins; by the kernel for each number of players. -/
import Derived.Test.YtaagijoeccbmeaaKnPlay
namespace Go.Proofs.Ytaagijoeccbmeaa
set_option linter.unusedVariables false

def nthReal : List KG → Nat → Option (Int × Int)
  | [], _ => none
  | g :: t, m => if (decide (g.2.1 < 0) || decide (g.2.2 < 0)) = true then nthReal t m else match m with | 0 => some (g.2.1, g.2.2) | m + 1 => nthReal t m
def pairG (k : Nat) (g : KG) : Bool := (decide (g.2.1 < 0) || decide (g.2.2 < 0)) || (decide (0 ≤ g.1) && decide (g.1 ≤ k) && decide (g.2.1 ≤ 31) && decide (g.2.2 ≤ 31) && (g.2.1 + g.2.2 == 2 ^ (k - g.1.toNat) - 1))
def pairedB (k : Nat) (out : List KG) : Bool := out.all (pairG k) && (out.length + 1 == 2 ^ k)
def goBest (n : Nat) : Nat → List Int → Bool
  | 0, _ => false
  | f + 1, rs => match playR n rs with
    | (out, w, e) => (e == 0) && (!rs.any badB) && if (decide (0 ≤ w)) = true then (w == 0) && pairedB (kOf n) out else match nthReal out rs.length with | none => false | some (a, b) => goBest n f (rs ++ [if b < a then 0 else 2])
theorem best_all : ((List.range 33).all fun n => decide (n < 2) || goBest n 64 []) = true := by decide +kernel
theorem best (n : Nat) (h0 : 2 ≤ n) (h1 : n ≤ 32) : goBest n 64 [] = true := by
  have h := List.all_eq_true.1 best_all n (List.mem_range.2 (by omega))
  rw [Bool.or_eq_true, decide_eq_true_eq] at h
  exact h.resolve_left (by omega)
end Go.Proofs.Ytaagijoeccbmeaa
