/- Patterns: pattern.Check, fits, at, At. -/
import Derived.Test.YtkfaibdflbdpgaaEngBegin
namespace Go.Proofs.Ytkfaibdflbdpgaa
open Go.ChangeShapes Go.WideShapes Go.ChangeAt Go.RowKit
set_option linter.unusedVariables false

structure PatZ where
  width : Int
  height : Int
  cells : List Int
  turn : Int
deriving Inhabited, DecidableEq
def patErr (R : RulesZ) (x : PatZ) : Int :=
  if rulesErr R ≠ 0 then rulesErr R
  else if wb x.width 1 R.width = false ∨ wb x.height 1 R.height = false then 4
  else if (x.cells.length : Int) ≠ x.width * x.height then 3
  else if x.cells.any (fun z => !wb z (-3) (2 * (R.pieces.length : Int))) = true then 4
  else if wb x.turn (-1) 1 = false then 4 else 0
theorem pchk1_any (a : Option Addr) (n c B : Nat) (z : Int) (w : World) (hn : n ≤ 6) (h1 : w.cell? ⟨B, 3, none⟩ = some (.slice a n c)) :
    Calls Try.prog 146 (#[.int .i64 z] ++ #[.pointer (some ⟨B, 0, none⟩)]) w fun e w' => e = .returned (.bool (!wb z (-3) (2 * (n : Int)))) ∧ w = w' := by
  show Calls Try.prog 146 #[.int .i64 z, .pointer (some ⟨B, 0, none⟩)] w _
  by_cases k1 : z < -3 <;> by_cases k2 : 2 * (n : Int) < z
  all_goals
    have H : Hid ((!wb z (-3) (2 * (n : Int))) = (decide (z < -3) || decide (2 * (n : Int) < z))) := Lib.hid (by unfold wb; by_cases e1 : -3 ≤ z <;> by_cases e2 : z ≤ 2 * (n : Int) <;> simp [e1, e2] <;> omega)
    go_enter Try.func146, Try.ntmps146
    go_wp2
    go_ret
    exact ⟨by rw [H.out]; simp [k1, k2], rfl⟩
theorem callPchk1 (args : Array Value) (w : World) : (callFunc 146 args).run Try.prog w = .ok (.enter 146 args) w := by kernel_rfl

set_option maxRecDepth 100000 in
set_option maxHeartbeats 4000000 in
theorem patCheck_any (R : RulesZ) (vp vs ve : Value) (x : PatZ) (vx : Value) (w : World) (h : RdR w R vp vs ve) (hnm : R.name.size ≤ maxLen) (hx : RdI w vx x.cells) :
    Calls Try.prog 88 #[(.agg #[.string R.name, .int .i64 R.width, .int .i64 R.height, vp, vs, .bool R.falls, .bool R.keeps, ve, .int .i64 R.blocked, .int .i64 R.quiet, .int .i64 R.rept]), (.agg #[.int .i64 x.width, .int .i64 x.height, vx, .int .i64 x.turn])] w fun e w' => e = .returned (.int .i64 (patErr R x)) ∧ Below w.heap.size w w' := by
  have HR := Lib.hid h
  have HN := Lib.hid hnm
  have HX := Lib.hid hx
  obtain ⟨ap, cp, rfl, _, hp2⟩ := h.1.form
  obtain ⟨ax, cx, rfl, hx1, hx2⟩ := hx.form
  unfold maxLen at hx2 hp2
  have HC : Hid (patErr R x = if rulesErr R ≠ 0 then rulesErr R
  else if wb x.width 1 R.width = false ∨ wb x.height 1 R.height = false then 4
  else if (x.cells.length : Int) ≠ x.width * x.height then 3
  else if x.cells.any (fun z => !wb z (-3) (2 * (R.pieces.length : Int))) = true then 4
  else if wb x.turn (-1) 1 = false then 4 else 0) := Lib.hid rfl
  clear h hnm hx
  go_enter Try.func88, Try.ntmps88
  go_wp2_with fail
  refine (rulesCheck_any R _ vs ve _ ((HR.out.alloc _).alloc _) HN.out).mono ?_
  rintro e w1 ⟨rfl, hb1⟩
  have hs1 := hb1.size
  simp at hs1
  have z0 : w.heap.size < w1.heap.size := by omega
  have z1 : w.heap.size + 1 < w1.heap.size := by omega
  have q1 : w1.cell? ⟨w.heap.size, 1, none⟩ = some (.int .i64 R.width) := (hb1.cell (by go_size)).trans (by simp [go_sem])
  have q2 : w1.cell? ⟨w.heap.size, 2, none⟩ = some (.int .i64 R.height) := (hb1.cell (by go_size)).trans (by simp [go_sem])
  have q3 : w1.cell? ⟨w.heap.size, 3, none⟩ = some (.slice ap R.pieces.length cp) := (hb1.cell (by go_size)).trans (by simp [go_sem])
  have x0 : w1.cell? ⟨w.heap.size + 1, 0, none⟩ = some (.int .i64 x.width) := (hb1.cell (by go_size)).trans (by simp [go_sem])
  have x1 : w1.cell? ⟨w.heap.size + 1, 1, none⟩ = some (.int .i64 x.height) := (hb1.cell (by go_size)).trans (by simp [go_sem])
  have x2 : w1.cell? ⟨w.heap.size + 1, 2, none⟩ = some (.slice ax x.cells.length cx) := (hb1.cell (by go_size)).trans (by simp [go_sem])
  have x3 : w1.cell? ⟨w.heap.size + 1, 3, none⟩ = some (.int .i64 x.turn) := (hb1.cell (by go_size)).trans (by simp [go_sem])
  have HB : Hid (Below w.heap.size w w1) := Lib.hid ((((Below.refl _ _).alloc (Nat.le_refl _) _).alloc (by go_size) _).trans (hb1.mono (by go_size)))
  clear hb1 hs1
  cases t1 : (rulesErr R == 0)
  · have t1' : (rulesErr R != 0) = true := by simp [bne, t1]
    have HE : Hid (patErr R x = rulesErr R) := Lib.hid (by rw [HC.out, if_pos (by simpa using t1)])
    go_wp2_with fail
    go_ret
    exact ⟨by rw [HE.out]; rfl, HB.out⟩
  have t1' : (rulesErr R != 0) = false := by simp [bne, t1]
  have HZ : Hid (rulesErr R = 0) := Lib.hid (by simpa using t1)
  have HC2 := Lib.hid (by have := HC.out; rw [if_neg (by simp [HZ.out])] at this; exact this)
  clear t1 HC
  obtain ⟨hw, hh, hn⟩ := rulesOk HZ.out
  by_cases t2 : wb x.width 1 R.width = false ∨ wb x.height 1 R.height = false
  · have HE : Hid (patErr R x = 4) := Lib.hid (by rw [HC2.out, if_pos t2])
    have t2' : x.width < 1 ∨ R.width < x.width ∨ x.height < 1 ∨ R.height < x.height := by simp only [wb] at t2; simp at t2; omega
    have HT := Lib.hid t2
    clear t2
    by_cases u1 : x.width < 1
    · go_wp2_with fail
      go_ret
      exact ⟨by rw [HE.out]; rfl, HB.out⟩
    by_cases u2 : R.width < x.width
    · go_wp2_with fail
      go_ret
      exact ⟨by rw [HE.out]; rfl, HB.out⟩
    by_cases u3 : x.height < 1
    · go_wp2_with fail
      go_ret
      exact ⟨by rw [HE.out]; rfl, HB.out⟩
    have u4 : R.height < x.height := by omega
    go_wp2_with fail
    go_ret
    exact ⟨by rw [HE.out]; rfl, HB.out⟩
  have HC3 := Lib.hid (by have := HC2.out; rw [if_neg t2] at this; exact this)
  have t2' : (1 ≤ x.width ∧ x.width ≤ R.width) ∧ (1 ≤ x.height ∧ x.height ≤ R.height) := by simp only [wb] at t2; simp at t2; omega
  obtain ⟨⟨u1, u2⟩, u3, u4⟩ := t2'
  have hwh := mul_in x.width x.height 8 8 u1 (by omega) u3 (by omega)
  clear t2 HC2
  cases t5 : ((x.cells.length : Int) == x.width * x.height)
  · have t5' : ((x.cells.length : Int) != x.width * x.height) = true := by simp [bne, t5]
    have HE : Hid (patErr R x = 3) := Lib.hid (by rw [HC3.out, if_pos (by simpa using t5)])
    go_wp2_with fail
    go_ret
    exact ⟨by rw [HE.out]; rfl, HB.out⟩
  have t5' : ((x.cells.length : Int) != x.width * x.height) = false := by simp [bne, t5]
  have HC4 := Lib.hid (by have := HC3.out; rw [if_neg (by simpa using t5)] at this; exact this)
  clear HC3 t5
  go_wp2_with fail
  refine (ContainsFunc_any _ x.cells (fun z => !wb z (-3) (2 * (R.pieces.length : Int))) 146 _ _ (HX.out.below HB.out (Nat.le_refl _)) callPchk1 (fun z _ => pchk1_any _ _ _ _ z _ (by omega) q3)).mono ?_
  rintro e w' ⟨rfl, rfl⟩
  cases t6 : x.cells.any (fun z => !wb z (-3) (2 * (R.pieces.length : Int)))
  rotate_left
  · have HE : Hid (patErr R x = 4) := Lib.hid (by rw [HC4.out, if_pos t6])
    go_wp2_with fail
    go_ret
    exact ⟨by rw [HE.out]; rfl, HB.out⟩
  have HC5 := Lib.hid (by have := HC4.out; rw [if_neg (by simp [t6])] at this; exact this)
  clear HC4
  by_cases v1 : x.turn < -1
  · have HE : Hid (patErr R x = 4) := Lib.hid (by rw [HC5.out, if_pos (by simp [wb]; omega)])
    go_wp2_with fail
    go_ret
    exact ⟨by rw [HE.out]; rfl, HB.out⟩
  by_cases v2 : 1 < x.turn
  · have HE : Hid (patErr R x = 4) := Lib.hid (by rw [HC5.out, if_pos (by simp [wb]; omega)])
    go_wp2_with fail
    go_ret
    exact ⟨by rw [HE.out]; rfl, HB.out⟩
  have HE : Hid (patErr R x = 0) := Lib.hid (by rw [HC5.out, if_neg (by simp [wb]; omega)])
  go_wp2_with fail
  go_ret
  exact ⟨by rw [HE.out]; rfl, HB.out⟩

def fitsZ (want c : Int) : Bool := if want = -1 then true else if want = -2 then (c % 2 == 1) else if want = -3 then decide (0 < c) && (c % 2 == 0) else (want == c)
theorem fitsZ_1 (c : Int) : fitsZ (-1) c = true := by unfold fitsZ; rw [if_pos rfl]
theorem fitsZ_2 (c : Int) : fitsZ (-2) c = (c % 2 == 1) := by unfold fitsZ; rw [if_neg (by decide), if_pos rfl]
theorem fitsZ_3 (c : Int) : fitsZ (-3) c = (decide (0 < c) && (c % 2 == 0)) := by unfold fitsZ; rw [if_neg (by decide), if_neg (by decide), if_pos rfl]
theorem fitsZ_4 (want c : Int) (h1 : ¬ want = -1) (h2 : ¬ want = -2) (h3 : ¬ want = -3) : fitsZ want c = (want == c) := by unfold fitsZ; rw [if_neg h1, if_neg h2, if_neg h3]
theorem fits_any (want c : Int) (w : World) (hc : 0 ≤ c) (hc2 : c ≤ 1000) :
    Calls Try.prog 170 #[.int .i64 want, .int .i64 c] w fun e w' => e = .returned (.bool (fitsZ want c)) ∧ w = w' := by
  by_cases h1 : want = -1
  · subst h1
    go_enter Try.func170, Try.ntmps170
    go_wp2
    go_ret
    exact ⟨by rw [fitsZ_1]; rfl, rfl⟩
  by_cases h2 : want = -2
  · subst h2
    go_enter Try.func170, Try.ntmps170
    go_wp2
    go_ret
    exact ⟨by rw [fitsZ_2]; rfl, rfl⟩
  by_cases h3 : want = -3
  · subst h3
    by_cases h4 : 0 < c
    all_goals
      go_enter Try.func170, Try.ntmps170
      go_wp2
      go_ret
      exact ⟨by rw [fitsZ_3]; first | (rw [decide_eq_true h4]; rfl) | (rw [decide_eq_false (by omega)]; rfl), rfl⟩
  have q1 : (want == -1) = false := by simpa using h1
  have q2 : (want == -2) = false := by simpa using h2
  have q3 : (want == -3) = false := by simpa using h3
  go_enter Try.func170, Try.ntmps170
  go_wp2
  go_ret
  exact ⟨by rw [fitsZ_4 want c h1 h2 h3]; rfl, rfl⟩

end Go.Proofs.Ytkfaibdflbdpgaa
