/- knockout.Play, plainly, and the small contracts that it needs. -/
import Derived.Test.YtaagijoeccbmeaaKnSeeds2
import Derived.Test.YtaagijoeccbmeaaIntsFunc
import Derived.Test.YtaagijoeccbmeaaIntsIdx
import Derived.Test.YtaagijoeccbmeaaOwn
import Derived.Test.YtaagijoeccbmeaaSub
import Derived.RegionTactic
import Derived.Deep.QuietTactic
import Derived.BigQuiet
import Derived.Deep.RegionLaw
namespace Go.Proofs.Ytaagijoeccbmeaa
open Go.ChangeShapes Go.WideShapes Go.ChangeAt Go.RowKit
set_option linter.unusedVariables false

def badB (x : Int) : Bool := x != 0 && x != 2
theorem bad_any (x : Int) (w : World) : Calls Try.prog 12 #[.int .i64 x] w fun e w' => e = .returned (.bool (badB x)) ∧ w = w' := by
  have H : Hid (badB x = (x != 0 && x != 2)) := Lib.hid rfl
  cases h0 : (x != 0)
  all_goals
    go_enter Try.func12, Try.ntmps12
    go_wp2
    go_ret
    exact ⟨by rw [H.out, h0]; simp, rfl⟩
theorem callBad (args : Array Value) (w : World) : (callFunc 12 args).run Try.prog w = .ok (.enter 12 args) w := by kernel_rfl

/-! ### plainly -/
abbrev KG := Int × Int × Int
def flatK (gs : List KG) : List Value := gs.flatMap fun g => [.int .i64 g.1, .int .i64 g.2.1, .int .i64 g.2.2]
theorem flatK_snoc (gs : List KG) (g : KG) : flatK (gs ++ [g]) = flatK gs ++ [.int .i64 g.1, .int .i64 g.2.1, .int .i64 g.2.2] := by simp [flatK]
structure KS where
  out : List KG
  next : List Int
  rs : List Int
def nextV (a b : Int) (rs : List Int) : Int := if a < 0 ∨ b < 0 then (if a < b then b else a) else match rs with | [] => -2 | r :: _ => if r = 0 then b else a
def nextR (a b : Int) (rs : List Int) : List Int := if a < 0 ∨ b < 0 then rs else rs.tail
def stepK (round a b : Int) (s : KS) : KS := ⟨s.out ++ [(round, a, b)], s.next ++ [nextV a b s.rs], nextR a b s.rs⟩
def roundTo (round : Int) (l : List Int) (s : KS) : Nat → KS
  | 0 => s
  | m + 1 => stepK round (l.getD (2 * m) 0) (l.getD (2 * m + 1) 0) (roundTo round l s m)
def hasOpen (l : List Int) : Bool := l.any fun z => (-2 : Int) == z
/-- the rounds: what is left of the players, the games, what is left of the results. -/
def playL : Nat → Nat → List Int → List KG → List Int → List Int × List KG × List Int
  | 0, _, l, out, rs => (l, out, rs)
  | j + 1, round, l, out, rs => if hasOpen l = true then (l, out, rs) else playL j (round + 1) (roundTo round l ⟨out, [], rs⟩ (2 ^ j)).next (roundTo round l ⟨out, [], rs⟩ (2 ^ j)).out (roundTo round l ⟨out, [], rs⟩ (2 ^ j)).rs
def endPlay (r : List Int × List KG × List Int) : List KG × Int × Int :=
  if r.2.2 ≠ [] then ([], 0, 2) else if r.1.length = 1 then (r.2.1, (if r.1.getD 0 0 < -1 then -1 else r.1.getD 0 0), 0) else (r.2.1, -1, 0)
def playR (n : Nat) (rs : List Int) : List KG × Int × Int := if rs.any badB = true then ([], 0, 4) else endPlay (playL (kOf n) 0 (seedsZ n) [] rs)

theorem roundTo_lens (round : Int) (l : List Int) (s : KS) (m : Nat) : (roundTo round l s m).out.length = s.out.length + m ∧ (roundTo round l s m).next.length = s.next.length + m := by
  induction m with
  | zero => exact ⟨rfl, rfl⟩
  | succ m ih => simp only [roundTo, stepK, List.length_append, List.length_cons, List.length_nil]; omega

theorem infoK : (Try.prog.info? 29).map (fun i => (i.zero, i.size, i.bytes)) = some (some (.agg #[.int .i64 0, .int .i64 0, .int .i64 0]), 3, 24) := by kernel_rfl
theorem elemI : Try.prog.underlying 22 = some (.slice (Try.prog.elem 22)) := by kernel_rfl
theorem sizeI (w : World) : (sizeOf (Try.prog.elem 22)).run Try.prog w = .ok 1 w := by kernel_rfl
theorem cell_three_new (w : World) (a b c : Value) (t : TypeId) : ∀ j u, [a, b, c][j]? = some u → (w.alloc (.cells #[a, b, c] t)).cell? ((⟨w.heap.size, 0, none⟩ : Addr).add j) = some u := by
  intro j u hu
  match j, hu with
  | 0, hu => simp at hu; subst hu; simp [Addr.add]
  | 1, hu => simp at hu; subst hu; simp [Addr.add]
  | 2, hu => simp at hu; subst hu; simp [Addr.add]
  | j + 3, hu => simp at hu
theorem RdI.tail {w : World} {a : Option Addr} {c : Nat} {r : Int} {t : List Int} (h : RdI w (.slice a (t.length + 1) c) (r :: t)) : RdI w (.slice (subAddr a c 1 1) t.length (c - 1)) t := by
  have := Rd.drop (sz := 1) (n := t.length + 1) h 1 (by omega)
  simpa [RdI, ints] using this
end Go.Proofs.Ytaagijoeccbmeaa
