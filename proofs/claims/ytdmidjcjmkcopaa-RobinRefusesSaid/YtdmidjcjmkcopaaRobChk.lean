/- The contract of robin.Check: what it returns of a schedule that lies in memory. -/
import Derived.Test.YtdmidjcjmkcopaaRobPlain
import Derived.Test.YtdmidjcjmkcopaaMaps
import Derived.Test.YtdmidjcjmkcopaaRd
import Derived.RegionTactic
import Derived.Deep.QuietTactic
import Derived.BigQuiet
import Derived.WalkLawsBesides
namespace Go.Proofs.Ytdmidjcjmkcopaa
open Go.ChangeShapes Go.WideShapes Go.ChangeAt Go.RowKit Go.Maps
set_option linter.unusedVariables false

theorem two_any (n a b : Int) (w : World) :
    Calls Try.prog 18 #[.int .i64 n, .int .i64 a, .int .i64 b] w fun e w' => e = .returned (.bool (gameOk n (a, b))) ∧ w = w' := by
  go_enter Try.func18, Try.ntmps18
  go_wp2
  all_goals
    go_ret
    refine ⟨?_, rfl⟩
    unfold gameOk
    simp_all <;> first | rfl | omega

/-! ### plainly -/
def seenB (seen : List (Int × Int)) (a : Int) : Bool := seen.any fun g => g.1 == a || g.2 == a
def rowE (n : Int) : List (Int × Int) → List (Int × Int) → Int
  | _, [] => 0
  | seen, g :: t => if gameOk n g = true then (if (seenB seen g.1 || seenB seen g.2) = true then 7 else rowE n (seen ++ [g]) t) else 4
def rowsE (n : Int) : List (List (Int × Int)) → Int
  | [] => 0
  | r :: t => if rowE n [] r = 0 then rowsE n t else rowE n [] r
def cnt (gs : List (Int × Int)) (p : Int × Int) : Int := ((gs.filter (· == p)).length : Nat)
def okPair (tw : Bool) (gs : List (Int × Int)) (a b : Int) : Bool := if tw = true then cnt gs (a, b) == 1 && cnt gs (b, a) == 1 else cnt gs (a, b) + cnt gs (b, a) == 1
def pairsOk (n : Nat) (tw : Bool) (gs : List (Int × Int)) : Bool := (List.range n).all fun a => (List.range a).all fun b => okPair tw gs a b
def checkZ (n : Nat) (tw : Bool) (rows : List (List (Int × Int))) : Int :=
  if (rows.length : Int) ≠ roundsZ n tw then 3 else if rowsE n rows ≠ 0 then rowsE n rows else if pairsOk n tw rows.flatten = true then 0 else 8

theorem take_snocR {α : Type} (l : List α) (k : Nat) (h : k < l.length) : l.take (k + 1) = l.take k ++ [l[k]] := List.take_succ_eq_append_getElem h
theorem rowE_step (n : Int) (row : List (Int × Int)) (k : Nat) (h : k < row.length) : rowE n (row.take k) (row.drop k) = if gameOk n row[k] = true then (if (seenB (row.take k) row[k].1 || seenB (row.take k) row[k].2) = true then 7 else rowE n (row.take (k + 1)) (row.drop (k + 1))) else 4 := by
  rw [List.drop_eq_getElem_cons h, rowE, take_snocR row k h]
theorem rowsE_step (n : Int) (rows : List (List (Int × Int))) (r : Nat) (h : r < rows.length) : rowsE n (rows.drop r) = if rowE n [] rows[r] = 0 then rowsE n (rows.drop (r + 1)) else rowE n [] rows[r] := by
  rw [List.drop_eq_getElem_cons h, rowsE]
theorem cnt_le (gs : List (Int × Int)) (p : Int × Int) : 0 ≤ cnt gs p ∧ cnt gs p ≤ gs.length := by
  unfold cnt; have := List.length_filter_le (· == p) gs; omega
theorem flatten_len (rows : List (List (Int × Int))) (m : Nat) (h : ∀ r ∈ rows, r.length ≤ m) : rows.flatten.length ≤ rows.length * m := by
  induction rows with
  | nil => simp
  | cons a t ih =>
    have h1 := h a (by simp)
    have h2 := ih (fun r hr => h r (by simp [hr]))
    simp only [List.flatten_cons, List.length_append, List.length_cons, Nat.add_mul]
    omega
theorem flatten_take (rows : List (List (Int × Int))) (r : Nat) (h : r < rows.length) : (rows.take (r + 1)).flatten = (rows.take r).flatten ++ rows[r] := by
  rw [take_snocR rows r h, List.flatten_append]; simp

/-! ### the two maps -/
def pairV (g : Int × Int) : Value := .agg #[.int .i64 g.1, .int .i64 g.2]
theorem pairV_inj {g h : Int × Int} (e : pairV g = pairV h) : g = h := by
  unfold pairV at e
  simp at e
  exact Prod.ext e.1 e.2
open Classical in
noncomputable def metF (gs : List (Int × Int)) (x : Value) : Int := ((gs.filter fun g => decide (pairV g = x)).length : Nat)
open Classical in
noncomputable def busyF (seen : List (Int × Int)) (x : Value) : Bool := seen.any fun g => decide (Value.int .i64 g.1 = x) || decide (Value.int .i64 g.2 = x)
theorem metF_at (gs : List (Int × Int)) (p : Int × Int) : metF gs (pairV p) = cnt gs p := by
  unfold metF cnt
  congr 2
  apply List.filter_congr
  intro g _
  rw [Bool.eq_iff_iff]
  simp only [decide_eq_true_eq, beq_iff_eq]
  exact ⟨pairV_inj, fun h => by rw [h]⟩
theorem busyF_at (seen : List (Int × Int)) (a : Int) : busyF seen (.int .i64 a) = seenB seen a := by
  unfold busyF seenB
  congr 1
  funext g
  rw [Bool.eq_iff_iff]
  simp
theorem metF_snoc (gs : List (Int × Int)) (g : Int × Int) : metF (gs ++ [g]) = upd (metF gs) (pairV g) (metF gs (pairV g) + 1) := by
  funext x
  by_cases hx : x = pairV g
  · subst hx
    rw [upd_same]
    unfold metF
    simp [List.filter_append]
  · rw [upd_other _ _ hx]
    unfold metF
    have : ¬ pairV g = x := fun e => hx e.symm
    simp [List.filter_append, this]
theorem busyF_snoc (seen : List (Int × Int)) (g : Int × Int) : busyF (seen ++ [g]) = upd (upd (busyF seen) (.int .i64 g.1) true) (.int .i64 g.2) true := by
  funext x
  by_cases hx : x = .int .i64 g.2
  · subst hx; rw [upd_same]; unfold busyF; simp
  · rw [upd_other _ _ hx]
    by_cases hy : x = .int .i64 g.1
    · subst hy; rw [upd_same]; unfold busyF; simp
    · rw [upd_other _ _ hy]
      unfold busyF
      have h1 : ¬ Value.int .i64 g.1 = x := fun e => hy e.symm
      have h2 : ¬ Value.int .i64 g.2 = x := fun e => hx e.symm
      simp [h1, h2]
theorem upd_comm {α : Type} (f : Value → α) (a b : Value) (v : α) : upd (upd f a v) b v = upd (upd f b v) a v := by
  funext x
  by_cases ha : x = a
  · subst ha
    rw [upd_same]
    by_cases hb : x = b
    · subst hb; rw [upd_same]
    · rw [upd_other _ _ hb, upd_same]
  · rw [upd_other (upd f b v) v ha]
    by_cases hb : x = b
    · subst hb; rw [upd_same, upd_same]
    · rw [upd_other _ _ hb, upd_other _ _ hb, upd_other _ _ ha]

theorem keyP_laid : laidOutB Try.prog = true := by kernel_rfl
theorem keyP_size : decide (Try.prog.types.size + 2 ≤ 10000) = true := by kernel_rfl
theorem keyP_row : decide (35 < Try.prog.types.size) = true := by kernel_rfl
theorem keyP_type0 : Try.prog.keyType 35 = true := by kernel_rfl
theorem keyP : Keyed Try.prog 35 := Keyed.of_law (deep_law_gate keyP_laid (of_decide_eq_true keyP_size) (of_decide_eq_true keyP_row) keyP_type0 (by rw [Try.underlying35]))
theorem keyI : Keyed Try.prog 3 := int_keyed Try.underlying3
theorem zeroI (w : World) : (zeroValue 3).run Try.prog w = .ok (.int .i64 0) w := by kernel_rfl
theorem zeroB (w : World) : (zeroValue 4).run Try.prog w = .ok (.bool false) w := by kernel_rfl
theorem keyI_of {a : Int} (h0 : 0 ≤ a) (h1 : a ≤ 1000) : ∃ kl, keyOf Try.prog 3 (.int .i64 a) = some kl := ⟨_, keyOf_int_mk Try.underlying3 (WalkArith.wf_i64 (by omega))⟩
theorem keyOf_pair {P : Program} {t ti : TypeId} {f1 f2 : Field} (hu : P.underlying t = some (.struct #[f1, f2])) (hi : P.underlying ti = some (.int .i64)) (h1 : f1.type = ti) (h2 : f2.type = ti) (o1 : f1.offset = 0) (o2 : f2.offset = 1)
    (n1 : (f1.name != "_") = true) (n2 : (f2.name != "_") = true) (hk : P.keyType t = true) (c2 : P.cellsOf t = 2) (c1 : P.cellsOf ti = 1) (h0 : P.types.size ≠ 0) {a b : Int} (wa : (Lit.int .i64 a).wf = true) (wb : (Lit.int .i64 b).wf = true) :
    ∃ kl, keyOf P t (.agg #[.int .i64 a, .int .i64 b]) = some kl := by
  obtain ⟨m, hm⟩ : ∃ m, P.types.size = m + 1 := ⟨P.types.size - 1, by omega⟩
  unfold keyOf
  simp [hu, hk, Value.formed, c2, hm, Program.keyLits, Value.cells, n1, n2, h1, h2, o1, o2, c1, hi, wa, wb]
theorem keyP_type : Try.prog.keyType 35 = true := by kernel_rfl
theorem keyP_cells : Try.prog.cellsOf 35 = 2 := by kernel_rfl
theorem keyI_cells : Try.prog.cellsOf 3 = 1 := by kernel_rfl
theorem types_some : (Try.prog.types.size == 0) = false := by kernel_rfl
theorem keyP_of {a b : Int} (ha : 0 ≤ a ∧ a ≤ 1000) (hb : 0 ≤ b ∧ b ≤ 1000) : ∃ kl, keyOf Try.prog 35 (pairV (a, b)) = some kl :=
  have hz := types_some
  keyOf_pair Try.underlying35 Try.underlying3 rfl rfl rfl rfl rfl rfl keyP_type keyP_cells keyI_cells (fun h => by simp [h] at hz) (WalkArith.wf_i64 (by omega)) (WalkArith.wf_i64 (by omega))
end Go.Proofs.Ytdmidjcjmkcopaa
