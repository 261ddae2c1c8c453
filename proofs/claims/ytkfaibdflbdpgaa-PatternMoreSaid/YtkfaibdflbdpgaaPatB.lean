/- The contracts of pattern.at, check, At. -/
import Derived.Test.YtkfaibdflbdpgaaPatA
namespace Go.Proofs.Ytkfaibdflbdpgaa
open Go.ChangeShapes Go.WideShapes Go.ChangeAt Go.RowKit
set_option linter.unusedVariables false

/-- whether a pattern is at a square. -/
def atZ (R : RulesZ) (x : PatZ) (p : PosZ) (s : Int) : Bool :=
  if R.width < s % R.width + x.width ∨ R.height < s / R.width + x.height ∨ (0 ≤ x.turn ∧ x.turn ≠ p.turn) then false
  else (List.range x.cells.length).all fun i => fitsZ (x.cells.getD i 0) (p.cells.getD (s + (i : Int) / x.width * R.width + (i : Int) % x.width).toNat 0)
theorem all_from (f : Nat → Bool) (n k : Nat) (h : k < n) : ((List.range n).drop k).all f = (f k && ((List.range n).drop (k + 1)).all f) := by
  rw [List.drop_eq_getElem_cons (by simpa using h), List.all_cons, List.getElem_range]
theorem below_drew {B : Nat} {w W : World} (h : Below B w W) : Below B w W.drew := below_drewN h 1

/-- what is known of valid patterns and positions. -/
structure Fit (R : RulesZ) (x : PatZ) (p : PosZ) (s : Int) : Prop where
  w : 1 ≤ R.width ∧ R.width ≤ 8
  h : 1 ≤ R.height ∧ R.height ≤ 8
  xw : 1 ≤ x.width ∧ x.width ≤ 8
  xh : 1 ≤ x.height ∧ x.height ≤ 8
  xl : (x.cells.length : Int) = x.width * x.height
  pl : (p.cells.length : Int) = R.width * R.height
  pc : ∀ c ∈ p.cells, 0 ≤ c ∧ c ≤ 1000
  s : 0 ≤ s ∧ s < R.width * R.height

theorem fit_idx {R : RulesZ} {x : PatZ} {p : PosZ} {s : Int} (F : Fit R x p s) (h1 : s % R.width + x.width ≤ R.width) (h2 : s / R.width + x.height ≤ R.height) (k : Nat) (hk : k < x.cells.length) :
    0 ≤ (k : Int) / x.width ∧ (k : Int) / x.width < x.height ∧ 0 ≤ (k : Int) % x.width ∧ (k : Int) % x.width < x.width ∧ 0 ≤ (k : Int) / x.width * R.width ∧ (k : Int) / x.width * R.width ≤ 64 ∧
    0 ≤ s + (k : Int) / x.width * R.width + (k : Int) % x.width ∧ s + (k : Int) / x.width * R.width + (k : Int) % x.width < p.cells.length := by
  obtain ⟨hw, hh, xw, xh, xl, pl, _, hs⟩ := F
  have a1 : 0 ≤ (k : Int) / x.width := Int.ediv_nonneg (by omega) (by omega)
  have a2 : (k : Int) / x.width < x.height := by
    rw [Int.ediv_lt_iff_lt_mul (by omega), Int.mul_comm]
    omega
  have a3 := Int.emod_nonneg (k : Int) (show x.width ≠ 0 by omega)
  have a4 := Int.emod_lt_of_pos (k : Int) (show 0 < x.width by omega)
  have b1 : 0 ≤ (k : Int) / x.width * R.width := Int.mul_nonneg a1 (by omega)
  have b2 : (k : Int) / x.width * R.width ≤ 8 * 8 := Int.mul_le_mul (by omega) (by omega) (by omega) (by omega)
  refine ⟨a1, a2, a3, a4, b1, by omega, by omega, ?_⟩
  have e := Int.emod_add_mul_ediv s R.width
  have c1 : (s / R.width + (k : Int) / x.width + 1) * R.width ≤ R.height * R.width := Int.mul_le_mul_of_nonneg_right (by omega) (by omega)
  rw [Int.add_mul, Int.add_mul, Int.one_mul] at c1
  rw [pl, Int.mul_comm R.width R.height]
  rw [Int.mul_comm R.width (s / R.width)] at e
  omega

set_option maxRecDepth 100000 in
set_option maxHeartbeats 4000000 in
theorem at_any (R : RulesZ) (vp vs ve : Value) (x : PatZ) (vx : Value) (p : PosZ) (vc v0 v1 : Value) (s : Int) (w : World) (hx : RdI w vx x.cells) (hp : RdP w p vc v0 v1) (F : Fit R x p s) :
    Calls Try.prog 145 #[(.agg #[.string R.name, .int .i64 R.width, .int .i64 R.height, vp, vs, .bool R.falls, .bool R.keeps, ve, .int .i64 R.blocked, .int .i64 R.quiet, .int .i64 R.rept]), (.agg #[.int .i64 x.width, .int .i64 x.height, vx, .int .i64 x.turn]), (.agg #[vc, v0, v1, .int .i64 p.turn, .int .i64 p.quiet]), .int .i64 s] w fun e w' => e = .returned (.bool (atZ R x p s)) ∧ Below w.heap.size w w' := by
  have HX := Lib.hid hx
  have HP := Lib.hid hp
  have HF := Lib.hid F
  obtain ⟨ax, cx, rfl, hx1, hx2⟩ := hx.form
  obtain ⟨ac, cc, rfl, hc1, hc2⟩ := hp.1.form
  obtain ⟨a0, c0, rfl, _, _⟩ := hp.2.1.form
  obtain ⟨a1, c1, rfl, _, _⟩ := hp.2.2.form
  unfold maxLen at hx2 hc2
  have HC : Hid (atZ R x p s = if R.width < s % R.width + x.width ∨ R.height < s / R.width + x.height ∨ (0 ≤ x.turn ∧ x.turn ≠ p.turn) then false
    else (List.range x.cells.length).all fun i => fitsZ (x.cells.getD i 0) (p.cells.getD (s + (i : Int) / x.width * R.width + (i : Int) % x.width).toNat 0)) := Lib.hid rfl
  obtain ⟨hw, hh, xw, xh, xl, pl, pc, hs⟩ := F
  have hwh := mul_in R.width R.height 8 8 hw.1 hw.2 hh.1 hh.2
  clear hx hp xl pl pc
  have hq : s.tdiv R.width = s / R.width := Int.tdiv_eq_ediv_of_nonneg hs.1
  have hr : s.tmod R.width = s % R.width := Int.tmod_eq_emod_of_nonneg hs.1
  have q1 : 0 ≤ s / R.width := Int.ediv_nonneg hs.1 (by omega)
  have q2 : s / R.width ≤ s := Int.ediv_le_self _ hs.1
  have q3 := Int.emod_nonneg s (show R.width ≠ 0 by omega)
  have q4 := Int.emod_lt_of_pos s (show 0 < R.width by omega)
  have e1 : IntKind.i64.wrap (s % R.width + x.width) = s % R.width + x.width := IntWalk.i64_in _ (by omega)
  have e2 : IntKind.i64.wrap (s / R.width + x.height) = s / R.width + x.height := IntWalk.i64_in _ (by omega)
  have e3 : IntKind.i64.wrap (s / R.width) = s / R.width := IntWalk.i64_in _ (by omega)
  have e4 : IntKind.i64.wrap (s % R.width) = s % R.width := IntWalk.i64_in _ (by omega)
  have hw0 : ¬ R.width = 0 := by omega
  have r1 : (((w.alloc (.cells #[.string R.name, .int .i64 R.width, .int .i64 R.height, vp, vs, .bool R.falls, .bool R.keeps, ve, .int .i64 R.blocked, .int .i64 R.quiet, .int .i64 R.rept] 26)).alloc (.cells #[.int .i64 x.width, .int .i64 x.height, .slice ax x.cells.length cx, .int .i64 x.turn] 78)).alloc (.cells #[.slice ac p.cells.length cc, .slice a0 p.h0.length c0, .slice a1 p.h1.length c1, .int .i64 p.turn, .int .i64 p.quiet] 37)).cell? ⟨w.heap.size, 1, none⟩ = some (.int .i64 R.width) := by simp [go_sem]
  have r2 : (((w.alloc (.cells #[.string R.name, .int .i64 R.width, .int .i64 R.height, vp, vs, .bool R.falls, .bool R.keeps, ve, .int .i64 R.blocked, .int .i64 R.quiet, .int .i64 R.rept] 26)).alloc (.cells #[.int .i64 x.width, .int .i64 x.height, .slice ax x.cells.length cx, .int .i64 x.turn] 78)).alloc (.cells #[.slice ac p.cells.length cc, .slice a0 p.h0.length c0, .slice a1 p.h1.length c1, .int .i64 p.turn, .int .i64 p.quiet] 37)).cell? ⟨w.heap.size, 2, none⟩ = some (.int .i64 R.height) := by simp [go_sem]
  have x0 : (((w.alloc (.cells #[.string R.name, .int .i64 R.width, .int .i64 R.height, vp, vs, .bool R.falls, .bool R.keeps, ve, .int .i64 R.blocked, .int .i64 R.quiet, .int .i64 R.rept] 26)).alloc (.cells #[.int .i64 x.width, .int .i64 x.height, .slice ax x.cells.length cx, .int .i64 x.turn] 78)).alloc (.cells #[.slice ac p.cells.length cc, .slice a0 p.h0.length c0, .slice a1 p.h1.length c1, .int .i64 p.turn, .int .i64 p.quiet] 37)).cell? ⟨w.heap.size + 1, 0, none⟩ = some (.int .i64 x.width) := by simp [go_sem]
  have x1 : (((w.alloc (.cells #[.string R.name, .int .i64 R.width, .int .i64 R.height, vp, vs, .bool R.falls, .bool R.keeps, ve, .int .i64 R.blocked, .int .i64 R.quiet, .int .i64 R.rept] 26)).alloc (.cells #[.int .i64 x.width, .int .i64 x.height, .slice ax x.cells.length cx, .int .i64 x.turn] 78)).alloc (.cells #[.slice ac p.cells.length cc, .slice a0 p.h0.length c0, .slice a1 p.h1.length c1, .int .i64 p.turn, .int .i64 p.quiet] 37)).cell? ⟨w.heap.size + 1, 1, none⟩ = some (.int .i64 x.height) := by simp [go_sem]
  have x2 : (((w.alloc (.cells #[.string R.name, .int .i64 R.width, .int .i64 R.height, vp, vs, .bool R.falls, .bool R.keeps, ve, .int .i64 R.blocked, .int .i64 R.quiet, .int .i64 R.rept] 26)).alloc (.cells #[.int .i64 x.width, .int .i64 x.height, .slice ax x.cells.length cx, .int .i64 x.turn] 78)).alloc (.cells #[.slice ac p.cells.length cc, .slice a0 p.h0.length c0, .slice a1 p.h1.length c1, .int .i64 p.turn, .int .i64 p.quiet] 37)).cell? ⟨w.heap.size + 1, 2, none⟩ = some (.slice ax x.cells.length cx) := by simp [go_sem]
  have x3 : (((w.alloc (.cells #[.string R.name, .int .i64 R.width, .int .i64 R.height, vp, vs, .bool R.falls, .bool R.keeps, ve, .int .i64 R.blocked, .int .i64 R.quiet, .int .i64 R.rept] 26)).alloc (.cells #[.int .i64 x.width, .int .i64 x.height, .slice ax x.cells.length cx, .int .i64 x.turn] 78)).alloc (.cells #[.slice ac p.cells.length cc, .slice a0 p.h0.length c0, .slice a1 p.h1.length c1, .int .i64 p.turn, .int .i64 p.quiet] 37)).cell? ⟨w.heap.size + 1, 3, none⟩ = some (.int .i64 x.turn) := by simp [go_sem]
  have p0 : (((w.alloc (.cells #[.string R.name, .int .i64 R.width, .int .i64 R.height, vp, vs, .bool R.falls, .bool R.keeps, ve, .int .i64 R.blocked, .int .i64 R.quiet, .int .i64 R.rept] 26)).alloc (.cells #[.int .i64 x.width, .int .i64 x.height, .slice ax x.cells.length cx, .int .i64 x.turn] 78)).alloc (.cells #[.slice ac p.cells.length cc, .slice a0 p.h0.length c0, .slice a1 p.h1.length c1, .int .i64 p.turn, .int .i64 p.quiet] 37)).cell? ⟨w.heap.size + 1 + 1, 0, none⟩ = some (.slice ac p.cells.length cc) := by simp [go_sem]
  have p3 : (((w.alloc (.cells #[.string R.name, .int .i64 R.width, .int .i64 R.height, vp, vs, .bool R.falls, .bool R.keeps, ve, .int .i64 R.blocked, .int .i64 R.quiet, .int .i64 R.rept] 26)).alloc (.cells #[.int .i64 x.width, .int .i64 x.height, .slice ax x.cells.length cx, .int .i64 x.turn] 78)).alloc (.cells #[.slice ac p.cells.length cc, .slice a0 p.h0.length c0, .slice a1 p.h1.length c1, .int .i64 p.turn, .int .i64 p.quiet] 37)).cell? ⟨w.heap.size + 1 + 1, 3, none⟩ = some (.int .i64 p.turn) := by simp [go_sem]
  have HB : Hid (Below w.heap.size w (((w.alloc (.cells #[.string R.name, .int .i64 R.width, .int .i64 R.height, vp, vs, .bool R.falls, .bool R.keeps, ve, .int .i64 R.blocked, .int .i64 R.quiet, .int .i64 R.rept] 26)).alloc (.cells #[.int .i64 x.width, .int .i64 x.height, .slice ax x.cells.length cx, .int .i64 x.turn] 78)).alloc (.cells #[.slice ac p.cells.length cc, .slice a0 p.h0.length c0, .slice a1 p.h1.length c1, .int .i64 p.turn, .int .i64 p.quiet] 37))) := Lib.hid ((((Below.refl _ _).alloc (Nat.le_refl _) _).alloc (by go_size) _).alloc (by go_size) _)
  have hz0 : w.heap.size + 1 + 1 < (((w.alloc (.cells #[.string R.name, .int .i64 R.width, .int .i64 R.height, vp, vs, .bool R.falls, .bool R.keeps, ve, .int .i64 R.blocked, .int .i64 R.quiet, .int .i64 R.rept] 26)).alloc (.cells #[.int .i64 x.width, .int .i64 x.height, .slice ax x.cells.length cx, .int .i64 x.turn] 78)).alloc (.cells #[.slice ac p.cells.length cc, .slice a0 p.h0.length c0, .slice a1 p.h1.length c1, .int .i64 p.turn, .int .i64 p.quiet] 37)).heap.size := by simp
  go_enter Try.func145, Try.ntmps145
  go_wp2_with fail
  generalize (((w.alloc (.cells #[.string R.name, .int .i64 R.width, .int .i64 R.height, vp, vs, .bool R.falls, .bool R.keeps, ve, .int .i64 R.blocked, .int .i64 R.quiet, .int .i64 R.rept] 26)).alloc (.cells #[.int .i64 x.width, .int .i64 x.height, .slice ax x.cells.length cx, .int .i64 x.turn] 78)).alloc (.cells #[.slice ac p.cells.length cc, .slice a0 p.h0.length c0, .slice a1 p.h1.length c1, .int .i64 p.turn, .int .i64 p.quiet] 37)) = w3 at *
  by_cases t1 : R.width < s % R.width + x.width
  · have HE : Hid (atZ R x p s = false) := Lib.hid (by rw [HC.out, if_pos (.inl t1)])
    have t1' : decide (R.width < s % R.width + x.width) = true := by simpa using t1
    refine wp_region_noPanic ?_
    refine beginL (S := (fun w' => w'.cell? ⟨w.heap.size, 1, none⟩ = some (.int .i64 R.width) ∧ w'.cell? ⟨w.heap.size, 2, none⟩ = some (.int .i64 R.height) ∧ w'.cell? ⟨w.heap.size + 1, 0, none⟩ = some (.int .i64 x.width) ∧ w'.cell? ⟨w.heap.size + 1, 1, none⟩ = some (.int .i64 x.height) ∧ w'.cell? ⟨w.heap.size + 1, 2, none⟩ = some (.slice ax x.cells.length cx) ∧ w'.cell? ⟨w.heap.size + 1, 3, none⟩ = some (.int .i64 x.turn) ∧ w'.cell? ⟨w.heap.size + 1 + 1, 0, none⟩ = some (.slice ac p.cells.length cc) ∧ w'.cell? ⟨w.heap.size + 1 + 1, 3, none⟩ = some (.int .i64 p.turn))) (L := []) (by kernel_rfl) ⟨r1, r2, x0, x1, x2, x3, p0, p3⟩ (fun hHeld => ?_)
    refine takeW (i := 0) (oi := { dst := some 11, op := Op.move (Operand.tmp 3), type := 3, pos := "pattern.go:52", after := #[], guard := none }) (v := ?va217) rfl (by kernel_rfl) (by kernel_rfl) (by kernel_rfl) rfl (fun _ _ _ h => h) (Or.inl ⟨by rfl, ?ya217⟩) (fun _ => by assumption) ?ra217
    case ya217 => (intro w _; go_simp; first | done | (with_reducible rfl))
    try simp only [Act.put, List.setIfInBounds_toArray, List.set_cons_zero, List.set_cons_succ]
    refine takeW (i := 1) (oi := { dst := some 12, op := Op.fieldAddr 26 (Operand.tmp 4) 1, type := 0, pos := "pattern.go:52", after := #[], guard := none }) (v := ?va218) rfl (by kernel_rfl) (by kernel_rfl) (by kernel_rfl) rfl (fun _ _ _ h => h) (Or.inl ⟨by rfl, ?ya218⟩) (fun _ => by assumption) ?ra218
    case ya218 => (intro w _; go_simp; first | done | (with_reducible rfl))
    try simp only [Act.put, List.setIfInBounds_toArray, List.set_cons_zero, List.set_cons_succ]
    refine takeW (i := 4) (oi := { dst := some 15, op := Op.fieldAddr 78 (Operand.tmp 5) 0, type := 0, pos := "pattern.go:52", after := #[], guard := none }) (v := ?va219) rfl (by kernel_rfl) (by kernel_rfl) (by kernel_rfl) rfl (fun _ _ _ h => h) (Or.inl ⟨by rfl, ?ya219⟩) (fun _ => by assumption) ?ra219
    case ya219 => (intro w _; go_simp; first | done | (with_reducible rfl))
    try simp only [Act.put, List.setIfInBounds_toArray, List.set_cons_zero, List.set_cons_succ]
    refine takeW (i := 7) (oi := { dst := some 18, op := Op.fieldAddr 26 (Operand.tmp 4) 1, type := 0, pos := "pattern.go:52", after := #[], guard := none }) (v := ?va220) rfl (by kernel_rfl) (by kernel_rfl) (by kernel_rfl) rfl (fun _ _ _ h => h) (Or.inl ⟨by rfl, ?ya220⟩) (fun _ => by assumption) ?ra220
    case ya220 => (intro w _; go_simp; first | done | (with_reducible rfl))
    try simp only [Act.put, List.setIfInBounds_toArray, List.set_cons_zero, List.set_cons_succ]
    refine takeL (i := 2) (oi := { dst := some 13, op := Op.load 3 (Operand.tmp 12), type := 3, pos := "pattern.go:52", after := #[{ on := 1, ground := Ground.data }], guard := none }) (v := ?va221) rfl (by kernel_rfl) (by kernel_rfl) (by kernel_rfl) (by kernel_rfl) rfl (by kernel_rfl) (by kernel_rfl) (fun _ _ _ h => h) (Or.inl ⟨by rfl, ?ya221⟩) (by assumption) ?ra221
    case ya221 => (intro w hSw; (try dsimp only at hSw); go_simp; first | done | (with_reducible rfl))
    try simp only [Act.put, List.setIfInBounds_toArray, List.set_cons_zero, List.set_cons_succ]
    refine takeL (i := 5) (oi := { dst := some 16, op := Op.load 3 (Operand.tmp 15), type := 3, pos := "pattern.go:52", after := #[{ on := 4, ground := Ground.data }], guard := none }) (v := ?va222) rfl (by kernel_rfl) (by kernel_rfl) (by kernel_rfl) (by kernel_rfl) rfl (by kernel_rfl) (by kernel_rfl) (fun _ _ _ h => h) (Or.inl ⟨by rfl, ?ya222⟩) (by assumption) ?ra222
    case ya222 => (intro w hSw; (try dsimp only at hSw); go_simp; first | done | (with_reducible rfl))
    try simp only [Act.put, List.setIfInBounds_toArray, List.set_cons_zero, List.set_cons_succ]
    refine takeL (i := 8) (oi := { dst := some 19, op := Op.load 3 (Operand.tmp 18), type := 3, pos := "pattern.go:52", after := #[{ on := 7, ground := Ground.data }], guard := none }) (v := ?va223) rfl (by kernel_rfl) (by kernel_rfl) (by kernel_rfl) (by kernel_rfl) rfl (by kernel_rfl) (by kernel_rfl) (fun _ _ _ h => h) (Or.inl ⟨by rfl, ?ya223⟩) (by assumption) ?ra223
    case ya223 => (intro w hSw; (try dsimp only at hSw); go_simp; first | done | (with_reducible rfl))
    try simp only [Act.put, List.setIfInBounds_toArray, List.set_cons_zero, List.set_cons_succ]
    refine takeW (i := 3) (oi := { dst := some 14, op := Op.binOp BinOp.rem 3 (Operand.tmp 11) (Operand.tmp 13) 3, type := 3, pos := "pattern.go:52", after := #[{ on := 0, ground := Ground.data }, { on := 2, ground := Ground.data }], guard := none }) (v := ?va224) rfl (by kernel_rfl) (by kernel_rfl) (by kernel_rfl) rfl (fun _ _ _ h => h) (Or.inl ⟨by rfl, ?ya224⟩) (fun _ => by assumption) ?ra224
    case ya224 => (intro w _; go_simp; first | done | (with_reducible rfl))
    try simp only [Act.put, List.setIfInBounds_toArray, List.set_cons_zero, List.set_cons_succ]
    refine takeW (i := 6) (oi := { dst := some 17, op := Op.binOp BinOp.add 3 (Operand.tmp 14) (Operand.tmp 16) 3, type := 3, pos := "pattern.go:52", after := #[{ on := 3, ground := Ground.data }, { on := 5, ground := Ground.data }], guard := none }) (v := ?va225) rfl (by kernel_rfl) (by kernel_rfl) (by kernel_rfl) rfl (fun _ _ _ h => h) (Or.inl ⟨by rfl, ?ya225⟩) (fun _ => by assumption) ?ra225
    case ya225 => (intro w _; go_simp; first | done | (with_reducible rfl))
    try simp only [Act.put, List.setIfInBounds_toArray, List.set_cons_zero, List.set_cons_succ]
    refine takeW (i := 9) (oi := { dst := some 20, op := Op.binOp BinOp.gtr 3 (Operand.tmp 17) (Operand.tmp 19) 3, type := 4, pos := "pattern.go:52", after := #[{ on := 6, ground := Ground.data }, { on := 8, ground := Ground.data }], guard := none }) (v := ?va226) rfl (by kernel_rfl) (by kernel_rfl) (by kernel_rfl) rfl (fun _ _ _ h => h) (Or.inl ⟨by rfl, ?ya226⟩) (fun _ => by assumption) ?ra226
    case ya226 => (intro w _; go_simp; first | done | (with_reducible rfl))
    try simp only [Act.put, List.setIfInBounds_toArray, List.set_cons_zero, List.set_cons_succ]
    refine takeW (i := 10) (oi := { dst := some 21, op := Op.move (Operand.tmp 20), type := 4, pos := "pattern.go:52", after := #[{ on := 9, ground := Ground.data }], guard := none }) (v := ?va227) rfl (by kernel_rfl) (by kernel_rfl) (by kernel_rfl) rfl (fun _ _ _ h => h) (Or.inl ⟨by rfl, ?ya227⟩) (fun _ => by assumption) ?ra227
    case ya227 => (intro w _; go_simp; first | done | (with_reducible rfl))
    try simp only [Act.put, List.setIfInBounds_toArray, List.set_cons_zero, List.set_cons_succ]
    refine takeW (i := 11) (oi := { dst := some 22, op := Op.move (Operand.tmp 3), type := 3, pos := "pattern.go:52", after := #[{ on := 10, ground := Ground.guard }], guard := some (10, false) }) (v := undef) rfl (by kernel_rfl) (by kernel_rfl) (by kernel_rfl) rfl (fun _ _ _ h => h) (Or.inr ⟨by rfl, rfl⟩) (fun _ => by assumption) ?_
    try simp only [Act.put, List.setIfInBounds_toArray, List.set_cons_zero, List.set_cons_succ]
    refine takeW (i := 12) (oi := { dst := some 23, op := Op.fieldAddr 26 (Operand.tmp 4) 1, type := 0, pos := "pattern.go:52", after := #[{ on := 10, ground := Ground.guard }], guard := some (10, false) }) (v := undef) rfl (by kernel_rfl) (by kernel_rfl) (by kernel_rfl) rfl (fun _ _ _ h => h) (Or.inr ⟨by rfl, rfl⟩) (fun _ => by assumption) ?_
    try simp only [Act.put, List.setIfInBounds_toArray, List.set_cons_zero, List.set_cons_succ]
    refine takeW (i := 15) (oi := { dst := some 26, op := Op.fieldAddr 78 (Operand.tmp 5) 1, type := 0, pos := "pattern.go:52", after := #[{ on := 10, ground := Ground.guard }], guard := some (10, false) }) (v := undef) rfl (by kernel_rfl) (by kernel_rfl) (by kernel_rfl) rfl (fun _ _ _ h => h) (Or.inr ⟨by rfl, rfl⟩) (fun _ => by assumption) ?_
    try simp only [Act.put, List.setIfInBounds_toArray, List.set_cons_zero, List.set_cons_succ]
    refine takeW (i := 18) (oi := { dst := some 29, op := Op.fieldAddr 26 (Operand.tmp 4) 2, type := 0, pos := "pattern.go:52", after := #[{ on := 10, ground := Ground.guard }], guard := some (10, false) }) (v := undef) rfl (by kernel_rfl) (by kernel_rfl) (by kernel_rfl) rfl (fun _ _ _ h => h) (Or.inr ⟨by rfl, rfl⟩) (fun _ => by assumption) ?_
    try simp only [Act.put, List.setIfInBounds_toArray, List.set_cons_zero, List.set_cons_succ]
    refine takeW (i := 13) (oi := { dst := some 24, op := Op.load 3 (Operand.tmp 23), type := 3, pos := "pattern.go:52", after := #[{ on := 12, ground := Ground.data }, { on := 10, ground := Ground.guard }], guard := some (10, false) }) (v := undef) rfl (by kernel_rfl) (by kernel_rfl) (by kernel_rfl) rfl (fun _ _ _ h => h) (Or.inr ⟨by rfl, rfl⟩) (fun _ => by assumption) ?_
    try simp only [Act.put, List.setIfInBounds_toArray, List.set_cons_zero, List.set_cons_succ]
    refine takeW (i := 16) (oi := { dst := some 27, op := Op.load 3 (Operand.tmp 26), type := 3, pos := "pattern.go:52", after := #[{ on := 15, ground := Ground.data }, { on := 10, ground := Ground.guard }], guard := some (10, false) }) (v := undef) rfl (by kernel_rfl) (by kernel_rfl) (by kernel_rfl) rfl (fun _ _ _ h => h) (Or.inr ⟨by rfl, rfl⟩) (fun _ => by assumption) ?_
    try simp only [Act.put, List.setIfInBounds_toArray, List.set_cons_zero, List.set_cons_succ]
    refine takeW (i := 19) (oi := { dst := some 30, op := Op.load 3 (Operand.tmp 29), type := 3, pos := "pattern.go:52", after := #[{ on := 18, ground := Ground.data }, { on := 10, ground := Ground.guard }], guard := some (10, false) }) (v := undef) rfl (by kernel_rfl) (by kernel_rfl) (by kernel_rfl) rfl (fun _ _ _ h => h) (Or.inr ⟨by rfl, rfl⟩) (fun _ => by assumption) ?_
    try simp only [Act.put, List.setIfInBounds_toArray, List.set_cons_zero, List.set_cons_succ]
    refine takeW (i := 14) (oi := { dst := some 25, op := Op.binOp BinOp.quo 3 (Operand.tmp 22) (Operand.tmp 24) 3, type := 3, pos := "pattern.go:52", after := #[{ on := 11, ground := Ground.data }, { on := 13, ground := Ground.data }, { on := 10, ground := Ground.guard }], guard := some (10, false) }) (v := undef) rfl (by kernel_rfl) (by kernel_rfl) (by kernel_rfl) rfl (fun _ _ _ h => h) (Or.inr ⟨by rfl, rfl⟩) (fun _ => by assumption) ?_
    try simp only [Act.put, List.setIfInBounds_toArray, List.set_cons_zero, List.set_cons_succ]
    refine takeW (i := 17) (oi := { dst := some 28, op := Op.binOp BinOp.add 3 (Operand.tmp 25) (Operand.tmp 27) 3, type := 3, pos := "pattern.go:52", after := #[{ on := 14, ground := Ground.data }, { on := 16, ground := Ground.data }, { on := 10, ground := Ground.guard }], guard := some (10, false) }) (v := undef) rfl (by kernel_rfl) (by kernel_rfl) (by kernel_rfl) rfl (fun _ _ _ h => h) (Or.inr ⟨by rfl, rfl⟩) (fun _ => by assumption) ?_
    try simp only [Act.put, List.setIfInBounds_toArray, List.set_cons_zero, List.set_cons_succ]
    refine takeW (i := 20) (oi := { dst := some 31, op := Op.binOp BinOp.gtr 3 (Operand.tmp 28) (Operand.tmp 30) 3, type := 4, pos := "pattern.go:52", after := #[{ on := 17, ground := Ground.data }, { on := 19, ground := Ground.data }, { on := 10, ground := Ground.guard }], guard := some (10, false) }) (v := undef) rfl (by kernel_rfl) (by kernel_rfl) (by kernel_rfl) rfl (fun _ _ _ h => h) (Or.inr ⟨by rfl, rfl⟩) (fun _ => by assumption) ?_
    try simp only [Act.put, List.setIfInBounds_toArray, List.set_cons_zero, List.set_cons_succ]
    refine takeW (i := 21) (oi := { dst := some 32, op := Op.pick (Operand.tmp 21) (Operand.const (Value.bool true)) (Operand.tmp 31), type := 4, pos := "pattern.go:52", after := #[{ on := 10, ground := Ground.data }, { on := 20, ground := Ground.data }], guard := none }) (v := ?va238) rfl (by kernel_rfl) (by kernel_rfl) (by kernel_rfl) rfl (fun _ _ _ h => h) (Or.inl ⟨by rfl, ?ya238⟩) (fun _ => by assumption) ?ra238
    case ya238 => (intro w _; go_simp; first | done | (with_reducible rfl))
    try simp only [Act.put, List.setIfInBounds_toArray, List.set_cons_zero, List.set_cons_succ]
    refine takeW (i := 22) (oi := { dst := some 33, op := Op.move (Operand.tmp 32), type := 4, pos := "pattern.go:52", after := #[{ on := 21, ground := Ground.data }, { on := 10, ground := Ground.chain }], guard := none }) (v := ?va239) rfl (by kernel_rfl) (by kernel_rfl) (by kernel_rfl) rfl (fun _ _ _ h => h) (Or.inl ⟨by rfl, ?ya239⟩) (fun _ => by assumption) ?ra239
    case ya239 => (intro w _; go_simp; first | done | (with_reducible rfl))
    try simp only [Act.put, List.setIfInBounds_toArray, List.set_cons_zero, List.set_cons_succ]
    refine takeW (i := 23) (oi := { dst := some 34, op := Op.fieldAddr 78 (Operand.tmp 5) 3, type := 0, pos := "pattern.go:52", after := #[{ on := 22, ground := Ground.guard }], guard := some (22, false) }) (v := undef) rfl (by kernel_rfl) (by kernel_rfl) (by kernel_rfl) rfl (fun _ _ _ h => h) (Or.inr ⟨by rfl, rfl⟩) (fun _ => by assumption) ?_
    try simp only [Act.put, List.setIfInBounds_toArray, List.set_cons_zero, List.set_cons_succ]
    refine takeW (i := 24) (oi := { dst := some 35, op := Op.load 3 (Operand.tmp 34), type := 3, pos := "pattern.go:52", after := #[{ on := 23, ground := Ground.data }, { on := 22, ground := Ground.guard }], guard := some (22, false) }) (v := undef) rfl (by kernel_rfl) (by kernel_rfl) (by kernel_rfl) rfl (fun _ _ _ h => h) (Or.inr ⟨by rfl, rfl⟩) (fun _ => by assumption) ?_
    try simp only [Act.put, List.setIfInBounds_toArray, List.set_cons_zero, List.set_cons_succ]
    refine takeW (i := 25) (oi := { dst := some 36, op := Op.binOp BinOp.geq 3 (Operand.tmp 35) (Operand.const (Value.int IntKind.i64 0)) 3, type := 4, pos := "pattern.go:52", after := #[{ on := 24, ground := Ground.data }, { on := 22, ground := Ground.guard }], guard := some (22, false) }) (v := undef) rfl (by kernel_rfl) (by kernel_rfl) (by kernel_rfl) rfl (fun _ _ _ h => h) (Or.inr ⟨by rfl, rfl⟩) (fun _ => by assumption) ?_
    try simp only [Act.put, List.setIfInBounds_toArray, List.set_cons_zero, List.set_cons_succ]
    refine takeW (i := 26) (oi := { dst := some 37, op := Op.move (Operand.tmp 36), type := 4, pos := "pattern.go:52", after := #[{ on := 25, ground := Ground.data }, { on := 22, ground := Ground.chain }, { on := 22, ground := Ground.guard }], guard := some (22, false) }) (v := undef) rfl (by kernel_rfl) (by kernel_rfl) (by kernel_rfl) rfl (fun _ _ _ h => h) (Or.inr ⟨by rfl, rfl⟩) (fun _ => by assumption) ?_
    try simp only [Act.put, List.setIfInBounds_toArray, List.set_cons_zero, List.set_cons_succ]
    refine takeW (i := 27) (oi := { dst := some 38, op := Op.fieldAddr 78 (Operand.tmp 5) 3, type := 0, pos := "pattern.go:52", after := #[{ on := 26, ground := Ground.guard }], guard := some (26, true) }) (v := undef) rfl (by kernel_rfl) (by kernel_rfl) (by kernel_rfl) rfl (fun _ _ _ h => h) (Or.inr ⟨by rfl, rfl⟩) (fun _ => by assumption) ?_
    try simp only [Act.put, List.setIfInBounds_toArray, List.set_cons_zero, List.set_cons_succ]
    refine takeW (i := 29) (oi := { dst := some 40, op := Op.fieldAddr 37 (Operand.tmp 6) 2, type := 0, pos := "pattern.go:52", after := #[{ on := 26, ground := Ground.guard }], guard := some (26, true) }) (v := undef) rfl (by kernel_rfl) (by kernel_rfl) (by kernel_rfl) rfl (fun _ _ _ h => h) (Or.inr ⟨by rfl, rfl⟩) (fun _ => by assumption) ?_
    try simp only [Act.put, List.setIfInBounds_toArray, List.set_cons_zero, List.set_cons_succ]
    refine takeW (i := 28) (oi := { dst := some 39, op := Op.load 3 (Operand.tmp 38), type := 3, pos := "pattern.go:52", after := #[{ on := 27, ground := Ground.data }, { on := 26, ground := Ground.guard }], guard := some (26, true) }) (v := undef) rfl (by kernel_rfl) (by kernel_rfl) (by kernel_rfl) rfl (fun _ _ _ h => h) (Or.inr ⟨by rfl, rfl⟩) (fun _ => by assumption) ?_
    try simp only [Act.put, List.setIfInBounds_toArray, List.set_cons_zero, List.set_cons_succ]
    refine takeW (i := 30) (oi := { dst := some 41, op := Op.load 3 (Operand.tmp 40), type := 3, pos := "pattern.go:52", after := #[{ on := 29, ground := Ground.data }, { on := 26, ground := Ground.guard }], guard := some (26, true) }) (v := undef) rfl (by kernel_rfl) (by kernel_rfl) (by kernel_rfl) rfl (fun _ _ _ h => h) (Or.inr ⟨by rfl, rfl⟩) (fun _ => by assumption) ?_
    try simp only [Act.put, List.setIfInBounds_toArray, List.set_cons_zero, List.set_cons_succ]
    refine takeW (i := 31) (oi := { dst := some 42, op := Op.binOp BinOp.neq 3 (Operand.tmp 39) (Operand.tmp 41) 3, type := 4, pos := "pattern.go:52", after := #[{ on := 28, ground := Ground.data }, { on := 30, ground := Ground.data }, { on := 26, ground := Ground.guard }], guard := some (26, true) }) (v := undef) rfl (by kernel_rfl) (by kernel_rfl) (by kernel_rfl) rfl (fun _ _ _ h => h) (Or.inr ⟨by rfl, rfl⟩) (fun _ => by assumption) ?_
    try simp only [Act.put, List.setIfInBounds_toArray, List.set_cons_zero, List.set_cons_succ]
    refine takeW (i := 32) (oi := { dst := some 43, op := Op.pick (Operand.tmp 37) (Operand.tmp 42) (Operand.const (Value.bool false)), type := 4, pos := "pattern.go:52", after := #[{ on := 26, ground := Ground.data }, { on := 31, ground := Ground.data }, { on := 22, ground := Ground.guard }], guard := some (22, false) }) (v := undef) rfl (by kernel_rfl) (by kernel_rfl) (by kernel_rfl) rfl (fun _ _ _ h => h) (Or.inr ⟨by rfl, rfl⟩) (fun _ => by assumption) ?_
    try simp only [Act.put, List.setIfInBounds_toArray, List.set_cons_zero, List.set_cons_succ]
    refine takeW (i := 33) (oi := { dst := some 44, op := Op.pick (Operand.tmp 33) (Operand.const (Value.bool true)) (Operand.tmp 43), type := 4, pos := "pattern.go:52", after := #[{ on := 22, ground := Ground.data }, { on := 32, ground := Ground.data }], guard := none }) (v := ?va250) rfl (by kernel_rfl) (by kernel_rfl) (by kernel_rfl) rfl (fun _ _ _ h => h) (Or.inl ⟨by rfl, ?ya250⟩) (fun _ => by assumption) ?ra250
    case ya250 => (intro w _; go_simp; first | done | (with_reducible rfl))
    try simp only [Act.put, List.setIfInBounds_toArray, List.set_cons_zero, List.set_cons_succ]
    refine doneL (by kernel_rfl) ?_ _
    refine NoPanic.normal ?_
    go_wp2_with fail
    go_ret
    exact ⟨by rw [HE.out]; rfl, below_drew HB.out⟩

  have t1' : decide (R.width < s % R.width + x.width) = false := by simpa using t1
  by_cases t2 : R.height < s / R.width + x.height
  · have HE : Hid (atZ R x p s = false) := Lib.hid (by rw [HC.out, if_pos (.inr (.inl t2))])
    have t2' : decide (R.height < s / R.width + x.height) = true := by simpa using t2
    refine wp_region_noPanic ?_
    refine beginL (S := (fun w' => w'.cell? ⟨w.heap.size, 1, none⟩ = some (.int .i64 R.width) ∧ w'.cell? ⟨w.heap.size, 2, none⟩ = some (.int .i64 R.height) ∧ w'.cell? ⟨w.heap.size + 1, 0, none⟩ = some (.int .i64 x.width) ∧ w'.cell? ⟨w.heap.size + 1, 1, none⟩ = some (.int .i64 x.height) ∧ w'.cell? ⟨w.heap.size + 1, 2, none⟩ = some (.slice ax x.cells.length cx) ∧ w'.cell? ⟨w.heap.size + 1, 3, none⟩ = some (.int .i64 x.turn) ∧ w'.cell? ⟨w.heap.size + 1 + 1, 0, none⟩ = some (.slice ac p.cells.length cc) ∧ w'.cell? ⟨w.heap.size + 1 + 1, 3, none⟩ = some (.int .i64 p.turn))) (L := []) (by kernel_rfl) ⟨r1, r2, x0, x1, x2, x3, p0, p3⟩ (fun hHeld => ?_)
    refine takeW (i := 0) (oi := { dst := some 11, op := Op.move (Operand.tmp 3), type := 3, pos := "pattern.go:52", after := #[], guard := none }) (v := ?va1) rfl (by kernel_rfl) (by kernel_rfl) (by kernel_rfl) rfl (fun _ _ _ h => h) (Or.inl ⟨by rfl, ?ya1⟩) (fun _ => by assumption) ?ra1
    case ya1 => (intro w _; go_simp; first | done | (with_reducible rfl))
    try simp only [Act.put, List.setIfInBounds_toArray, List.set_cons_zero, List.set_cons_succ]
    refine takeW (i := 1) (oi := { dst := some 12, op := Op.fieldAddr 26 (Operand.tmp 4) 1, type := 0, pos := "pattern.go:52", after := #[], guard := none }) (v := ?va2) rfl (by kernel_rfl) (by kernel_rfl) (by kernel_rfl) rfl (fun _ _ _ h => h) (Or.inl ⟨by rfl, ?ya2⟩) (fun _ => by assumption) ?ra2
    case ya2 => (intro w _; go_simp; first | done | (with_reducible rfl))
    try simp only [Act.put, List.setIfInBounds_toArray, List.set_cons_zero, List.set_cons_succ]
    refine takeW (i := 4) (oi := { dst := some 15, op := Op.fieldAddr 78 (Operand.tmp 5) 0, type := 0, pos := "pattern.go:52", after := #[], guard := none }) (v := ?va3) rfl (by kernel_rfl) (by kernel_rfl) (by kernel_rfl) rfl (fun _ _ _ h => h) (Or.inl ⟨by rfl, ?ya3⟩) (fun _ => by assumption) ?ra3
    case ya3 => (intro w _; go_simp; first | done | (with_reducible rfl))
    try simp only [Act.put, List.setIfInBounds_toArray, List.set_cons_zero, List.set_cons_succ]
    refine takeW (i := 7) (oi := { dst := some 18, op := Op.fieldAddr 26 (Operand.tmp 4) 1, type := 0, pos := "pattern.go:52", after := #[], guard := none }) (v := ?va4) rfl (by kernel_rfl) (by kernel_rfl) (by kernel_rfl) rfl (fun _ _ _ h => h) (Or.inl ⟨by rfl, ?ya4⟩) (fun _ => by assumption) ?ra4
    case ya4 => (intro w _; go_simp; first | done | (with_reducible rfl))
    try simp only [Act.put, List.setIfInBounds_toArray, List.set_cons_zero, List.set_cons_succ]
    refine takeL (i := 2) (oi := { dst := some 13, op := Op.load 3 (Operand.tmp 12), type := 3, pos := "pattern.go:52", after := #[{ on := 1, ground := Ground.data }], guard := none }) (v := ?va5) rfl (by kernel_rfl) (by kernel_rfl) (by kernel_rfl) (by kernel_rfl) rfl (by kernel_rfl) (by kernel_rfl) (fun _ _ _ h => h) (Or.inl ⟨by rfl, ?ya5⟩) (by assumption) ?ra5
    case ya5 => (intro w hSw; (try dsimp only at hSw); go_simp; first | done | (with_reducible rfl))
    try simp only [Act.put, List.setIfInBounds_toArray, List.set_cons_zero, List.set_cons_succ]
    refine takeL (i := 5) (oi := { dst := some 16, op := Op.load 3 (Operand.tmp 15), type := 3, pos := "pattern.go:52", after := #[{ on := 4, ground := Ground.data }], guard := none }) (v := ?va6) rfl (by kernel_rfl) (by kernel_rfl) (by kernel_rfl) (by kernel_rfl) rfl (by kernel_rfl) (by kernel_rfl) (fun _ _ _ h => h) (Or.inl ⟨by rfl, ?ya6⟩) (by assumption) ?ra6
    case ya6 => (intro w hSw; (try dsimp only at hSw); go_simp; first | done | (with_reducible rfl))
    try simp only [Act.put, List.setIfInBounds_toArray, List.set_cons_zero, List.set_cons_succ]
    refine takeL (i := 8) (oi := { dst := some 19, op := Op.load 3 (Operand.tmp 18), type := 3, pos := "pattern.go:52", after := #[{ on := 7, ground := Ground.data }], guard := none }) (v := ?va7) rfl (by kernel_rfl) (by kernel_rfl) (by kernel_rfl) (by kernel_rfl) rfl (by kernel_rfl) (by kernel_rfl) (fun _ _ _ h => h) (Or.inl ⟨by rfl, ?ya7⟩) (by assumption) ?ra7
    case ya7 => (intro w hSw; (try dsimp only at hSw); go_simp; first | done | (with_reducible rfl))
    try simp only [Act.put, List.setIfInBounds_toArray, List.set_cons_zero, List.set_cons_succ]
    refine takeW (i := 3) (oi := { dst := some 14, op := Op.binOp BinOp.rem 3 (Operand.tmp 11) (Operand.tmp 13) 3, type := 3, pos := "pattern.go:52", after := #[{ on := 0, ground := Ground.data }, { on := 2, ground := Ground.data }], guard := none }) (v := ?va8) rfl (by kernel_rfl) (by kernel_rfl) (by kernel_rfl) rfl (fun _ _ _ h => h) (Or.inl ⟨by rfl, ?ya8⟩) (fun _ => by assumption) ?ra8
    case ya8 => (intro w _; go_simp; first | done | (with_reducible rfl))
    try simp only [Act.put, List.setIfInBounds_toArray, List.set_cons_zero, List.set_cons_succ]
    refine takeW (i := 6) (oi := { dst := some 17, op := Op.binOp BinOp.add 3 (Operand.tmp 14) (Operand.tmp 16) 3, type := 3, pos := "pattern.go:52", after := #[{ on := 3, ground := Ground.data }, { on := 5, ground := Ground.data }], guard := none }) (v := ?va9) rfl (by kernel_rfl) (by kernel_rfl) (by kernel_rfl) rfl (fun _ _ _ h => h) (Or.inl ⟨by rfl, ?ya9⟩) (fun _ => by assumption) ?ra9
    case ya9 => (intro w _; go_simp; first | done | (with_reducible rfl))
    try simp only [Act.put, List.setIfInBounds_toArray, List.set_cons_zero, List.set_cons_succ]
    refine takeW (i := 9) (oi := { dst := some 20, op := Op.binOp BinOp.gtr 3 (Operand.tmp 17) (Operand.tmp 19) 3, type := 4, pos := "pattern.go:52", after := #[{ on := 6, ground := Ground.data }, { on := 8, ground := Ground.data }], guard := none }) (v := ?va10) rfl (by kernel_rfl) (by kernel_rfl) (by kernel_rfl) rfl (fun _ _ _ h => h) (Or.inl ⟨by rfl, ?ya10⟩) (fun _ => by assumption) ?ra10
    case ya10 => (intro w _; go_simp; first | done | (with_reducible rfl))
    try simp only [Act.put, List.setIfInBounds_toArray, List.set_cons_zero, List.set_cons_succ]
    refine takeW (i := 10) (oi := { dst := some 21, op := Op.move (Operand.tmp 20), type := 4, pos := "pattern.go:52", after := #[{ on := 9, ground := Ground.data }], guard := none }) (v := ?va11) rfl (by kernel_rfl) (by kernel_rfl) (by kernel_rfl) rfl (fun _ _ _ h => h) (Or.inl ⟨by rfl, ?ya11⟩) (fun _ => by assumption) ?ra11
    case ya11 => (intro w _; go_simp; first | done | (with_reducible rfl))
    try simp only [Act.put, List.setIfInBounds_toArray, List.set_cons_zero, List.set_cons_succ]
    refine takeW (i := 11) (oi := { dst := some 22, op := Op.move (Operand.tmp 3), type := 3, pos := "pattern.go:52", after := #[{ on := 10, ground := Ground.guard }], guard := some (10, false) }) (v := ?va12) rfl (by kernel_rfl) (by kernel_rfl) (by kernel_rfl) rfl (fun _ _ _ h => h) (Or.inl ⟨by rfl, ?ya12⟩) (fun _ => by assumption) ?ra12
    case ya12 => (intro w _; go_simp; first | done | (with_reducible rfl))
    try simp only [Act.put, List.setIfInBounds_toArray, List.set_cons_zero, List.set_cons_succ]
    refine takeW (i := 12) (oi := { dst := some 23, op := Op.fieldAddr 26 (Operand.tmp 4) 1, type := 0, pos := "pattern.go:52", after := #[{ on := 10, ground := Ground.guard }], guard := some (10, false) }) (v := ?va13) rfl (by kernel_rfl) (by kernel_rfl) (by kernel_rfl) rfl (fun _ _ _ h => h) (Or.inl ⟨by rfl, ?ya13⟩) (fun _ => by assumption) ?ra13
    case ya13 => (intro w _; go_simp; first | done | (with_reducible rfl))
    try simp only [Act.put, List.setIfInBounds_toArray, List.set_cons_zero, List.set_cons_succ]
    refine takeW (i := 15) (oi := { dst := some 26, op := Op.fieldAddr 78 (Operand.tmp 5) 1, type := 0, pos := "pattern.go:52", after := #[{ on := 10, ground := Ground.guard }], guard := some (10, false) }) (v := ?va14) rfl (by kernel_rfl) (by kernel_rfl) (by kernel_rfl) rfl (fun _ _ _ h => h) (Or.inl ⟨by rfl, ?ya14⟩) (fun _ => by assumption) ?ra14
    case ya14 => (intro w _; go_simp; first | done | (with_reducible rfl))
    try simp only [Act.put, List.setIfInBounds_toArray, List.set_cons_zero, List.set_cons_succ]
    refine takeW (i := 18) (oi := { dst := some 29, op := Op.fieldAddr 26 (Operand.tmp 4) 2, type := 0, pos := "pattern.go:52", after := #[{ on := 10, ground := Ground.guard }], guard := some (10, false) }) (v := ?va15) rfl (by kernel_rfl) (by kernel_rfl) (by kernel_rfl) rfl (fun _ _ _ h => h) (Or.inl ⟨by rfl, ?ya15⟩) (fun _ => by assumption) ?ra15
    case ya15 => (intro w _; go_simp; first | done | (with_reducible rfl))
    try simp only [Act.put, List.setIfInBounds_toArray, List.set_cons_zero, List.set_cons_succ]
    refine takeL (i := 13) (oi := { dst := some 24, op := Op.load 3 (Operand.tmp 23), type := 3, pos := "pattern.go:52", after := #[{ on := 12, ground := Ground.data }, { on := 10, ground := Ground.guard }], guard := some (10, false) }) (v := ?va16) rfl (by kernel_rfl) (by kernel_rfl) (by kernel_rfl) (by kernel_rfl) rfl (by kernel_rfl) (by kernel_rfl) (fun _ _ _ h => h) (Or.inl ⟨by rfl, ?ya16⟩) (by assumption) ?ra16
    case ya16 => (intro w hSw; (try dsimp only at hSw); go_simp; first | done | (with_reducible rfl))
    try simp only [Act.put, List.setIfInBounds_toArray, List.set_cons_zero, List.set_cons_succ]
    refine takeL (i := 16) (oi := { dst := some 27, op := Op.load 3 (Operand.tmp 26), type := 3, pos := "pattern.go:52", after := #[{ on := 15, ground := Ground.data }, { on := 10, ground := Ground.guard }], guard := some (10, false) }) (v := ?va17) rfl (by kernel_rfl) (by kernel_rfl) (by kernel_rfl) (by kernel_rfl) rfl (by kernel_rfl) (by kernel_rfl) (fun _ _ _ h => h) (Or.inl ⟨by rfl, ?ya17⟩) (by assumption) ?ra17
    case ya17 => (intro w hSw; (try dsimp only at hSw); go_simp; first | done | (with_reducible rfl))
    try simp only [Act.put, List.setIfInBounds_toArray, List.set_cons_zero, List.set_cons_succ]
    refine takeL (i := 19) (oi := { dst := some 30, op := Op.load 3 (Operand.tmp 29), type := 3, pos := "pattern.go:52", after := #[{ on := 18, ground := Ground.data }, { on := 10, ground := Ground.guard }], guard := some (10, false) }) (v := ?va18) rfl (by kernel_rfl) (by kernel_rfl) (by kernel_rfl) (by kernel_rfl) rfl (by kernel_rfl) (by kernel_rfl) (fun _ _ _ h => h) (Or.inl ⟨by rfl, ?ya18⟩) (by assumption) ?ra18
    case ya18 => (intro w hSw; (try dsimp only at hSw); go_simp; first | done | (with_reducible rfl))
    try simp only [Act.put, List.setIfInBounds_toArray, List.set_cons_zero, List.set_cons_succ]
    refine takeW (i := 14) (oi := { dst := some 25, op := Op.binOp BinOp.quo 3 (Operand.tmp 22) (Operand.tmp 24) 3, type := 3, pos := "pattern.go:52", after := #[{ on := 11, ground := Ground.data }, { on := 13, ground := Ground.data }, { on := 10, ground := Ground.guard }], guard := some (10, false) }) (v := ?va19) rfl (by kernel_rfl) (by kernel_rfl) (by kernel_rfl) rfl (fun _ _ _ h => h) (Or.inl ⟨by rfl, ?ya19⟩) (fun _ => by assumption) ?ra19
    case ya19 => (intro w _; go_simp; first | done | (with_reducible rfl))
    try simp only [Act.put, List.setIfInBounds_toArray, List.set_cons_zero, List.set_cons_succ]
    refine takeW (i := 17) (oi := { dst := some 28, op := Op.binOp BinOp.add 3 (Operand.tmp 25) (Operand.tmp 27) 3, type := 3, pos := "pattern.go:52", after := #[{ on := 14, ground := Ground.data }, { on := 16, ground := Ground.data }, { on := 10, ground := Ground.guard }], guard := some (10, false) }) (v := ?va20) rfl (by kernel_rfl) (by kernel_rfl) (by kernel_rfl) rfl (fun _ _ _ h => h) (Or.inl ⟨by rfl, ?ya20⟩) (fun _ => by assumption) ?ra20
    case ya20 => (intro w _; go_simp; first | done | (with_reducible rfl))
    try simp only [Act.put, List.setIfInBounds_toArray, List.set_cons_zero, List.set_cons_succ]
    refine takeW (i := 20) (oi := { dst := some 31, op := Op.binOp BinOp.gtr 3 (Operand.tmp 28) (Operand.tmp 30) 3, type := 4, pos := "pattern.go:52", after := #[{ on := 17, ground := Ground.data }, { on := 19, ground := Ground.data }, { on := 10, ground := Ground.guard }], guard := some (10, false) }) (v := ?va21) rfl (by kernel_rfl) (by kernel_rfl) (by kernel_rfl) rfl (fun _ _ _ h => h) (Or.inl ⟨by rfl, ?ya21⟩) (fun _ => by assumption) ?ra21
    case ya21 => (intro w _; go_simp; first | done | (with_reducible rfl))
    try simp only [Act.put, List.setIfInBounds_toArray, List.set_cons_zero, List.set_cons_succ]
    refine takeW (i := 21) (oi := { dst := some 32, op := Op.pick (Operand.tmp 21) (Operand.const (Value.bool true)) (Operand.tmp 31), type := 4, pos := "pattern.go:52", after := #[{ on := 10, ground := Ground.data }, { on := 20, ground := Ground.data }], guard := none }) (v := ?va22) rfl (by kernel_rfl) (by kernel_rfl) (by kernel_rfl) rfl (fun _ _ _ h => h) (Or.inl ⟨by rfl, ?ya22⟩) (fun _ => by assumption) ?ra22
    case ya22 => (intro w _; go_simp; first | done | (with_reducible rfl))
    try simp only [Act.put, List.setIfInBounds_toArray, List.set_cons_zero, List.set_cons_succ]
    refine takeW (i := 22) (oi := { dst := some 33, op := Op.move (Operand.tmp 32), type := 4, pos := "pattern.go:52", after := #[{ on := 21, ground := Ground.data }, { on := 10, ground := Ground.chain }], guard := none }) (v := ?va23) rfl (by kernel_rfl) (by kernel_rfl) (by kernel_rfl) rfl (fun _ _ _ h => h) (Or.inl ⟨by rfl, ?ya23⟩) (fun _ => by assumption) ?ra23
    case ya23 => (intro w _; go_simp; first | done | (with_reducible rfl))
    try simp only [Act.put, List.setIfInBounds_toArray, List.set_cons_zero, List.set_cons_succ]
    refine takeW (i := 23) (oi := { dst := some 34, op := Op.fieldAddr 78 (Operand.tmp 5) 3, type := 0, pos := "pattern.go:52", after := #[{ on := 22, ground := Ground.guard }], guard := some (22, false) }) (v := undef) rfl (by kernel_rfl) (by kernel_rfl) (by kernel_rfl) rfl (fun _ _ _ h => h) (Or.inr ⟨by rfl, rfl⟩) (fun _ => by assumption) ?_
    try simp only [Act.put, List.setIfInBounds_toArray, List.set_cons_zero, List.set_cons_succ]
    refine takeW (i := 24) (oi := { dst := some 35, op := Op.load 3 (Operand.tmp 34), type := 3, pos := "pattern.go:52", after := #[{ on := 23, ground := Ground.data }, { on := 22, ground := Ground.guard }], guard := some (22, false) }) (v := undef) rfl (by kernel_rfl) (by kernel_rfl) (by kernel_rfl) rfl (fun _ _ _ h => h) (Or.inr ⟨by rfl, rfl⟩) (fun _ => by assumption) ?_
    try simp only [Act.put, List.setIfInBounds_toArray, List.set_cons_zero, List.set_cons_succ]
    refine takeW (i := 25) (oi := { dst := some 36, op := Op.binOp BinOp.geq 3 (Operand.tmp 35) (Operand.const (Value.int IntKind.i64 0)) 3, type := 4, pos := "pattern.go:52", after := #[{ on := 24, ground := Ground.data }, { on := 22, ground := Ground.guard }], guard := some (22, false) }) (v := undef) rfl (by kernel_rfl) (by kernel_rfl) (by kernel_rfl) rfl (fun _ _ _ h => h) (Or.inr ⟨by rfl, rfl⟩) (fun _ => by assumption) ?_
    try simp only [Act.put, List.setIfInBounds_toArray, List.set_cons_zero, List.set_cons_succ]
    refine takeW (i := 26) (oi := { dst := some 37, op := Op.move (Operand.tmp 36), type := 4, pos := "pattern.go:52", after := #[{ on := 25, ground := Ground.data }, { on := 22, ground := Ground.chain }, { on := 22, ground := Ground.guard }], guard := some (22, false) }) (v := undef) rfl (by kernel_rfl) (by kernel_rfl) (by kernel_rfl) rfl (fun _ _ _ h => h) (Or.inr ⟨by rfl, rfl⟩) (fun _ => by assumption) ?_
    try simp only [Act.put, List.setIfInBounds_toArray, List.set_cons_zero, List.set_cons_succ]
    refine takeW (i := 27) (oi := { dst := some 38, op := Op.fieldAddr 78 (Operand.tmp 5) 3, type := 0, pos := "pattern.go:52", after := #[{ on := 26, ground := Ground.guard }], guard := some (26, true) }) (v := undef) rfl (by kernel_rfl) (by kernel_rfl) (by kernel_rfl) rfl (fun _ _ _ h => h) (Or.inr ⟨by rfl, rfl⟩) (fun _ => by assumption) ?_
    try simp only [Act.put, List.setIfInBounds_toArray, List.set_cons_zero, List.set_cons_succ]
    refine takeW (i := 29) (oi := { dst := some 40, op := Op.fieldAddr 37 (Operand.tmp 6) 2, type := 0, pos := "pattern.go:52", after := #[{ on := 26, ground := Ground.guard }], guard := some (26, true) }) (v := undef) rfl (by kernel_rfl) (by kernel_rfl) (by kernel_rfl) rfl (fun _ _ _ h => h) (Or.inr ⟨by rfl, rfl⟩) (fun _ => by assumption) ?_
    try simp only [Act.put, List.setIfInBounds_toArray, List.set_cons_zero, List.set_cons_succ]
    refine takeW (i := 28) (oi := { dst := some 39, op := Op.load 3 (Operand.tmp 38), type := 3, pos := "pattern.go:52", after := #[{ on := 27, ground := Ground.data }, { on := 26, ground := Ground.guard }], guard := some (26, true) }) (v := undef) rfl (by kernel_rfl) (by kernel_rfl) (by kernel_rfl) rfl (fun _ _ _ h => h) (Or.inr ⟨by rfl, rfl⟩) (fun _ => by assumption) ?_
    try simp only [Act.put, List.setIfInBounds_toArray, List.set_cons_zero, List.set_cons_succ]
    refine takeW (i := 30) (oi := { dst := some 41, op := Op.load 3 (Operand.tmp 40), type := 3, pos := "pattern.go:52", after := #[{ on := 29, ground := Ground.data }, { on := 26, ground := Ground.guard }], guard := some (26, true) }) (v := undef) rfl (by kernel_rfl) (by kernel_rfl) (by kernel_rfl) rfl (fun _ _ _ h => h) (Or.inr ⟨by rfl, rfl⟩) (fun _ => by assumption) ?_
    try simp only [Act.put, List.setIfInBounds_toArray, List.set_cons_zero, List.set_cons_succ]
    refine takeW (i := 31) (oi := { dst := some 42, op := Op.binOp BinOp.neq 3 (Operand.tmp 39) (Operand.tmp 41) 3, type := 4, pos := "pattern.go:52", after := #[{ on := 28, ground := Ground.data }, { on := 30, ground := Ground.data }, { on := 26, ground := Ground.guard }], guard := some (26, true) }) (v := undef) rfl (by kernel_rfl) (by kernel_rfl) (by kernel_rfl) rfl (fun _ _ _ h => h) (Or.inr ⟨by rfl, rfl⟩) (fun _ => by assumption) ?_
    try simp only [Act.put, List.setIfInBounds_toArray, List.set_cons_zero, List.set_cons_succ]
    refine takeW (i := 32) (oi := { dst := some 43, op := Op.pick (Operand.tmp 37) (Operand.tmp 42) (Operand.const (Value.bool false)), type := 4, pos := "pattern.go:52", after := #[{ on := 26, ground := Ground.data }, { on := 31, ground := Ground.data }, { on := 22, ground := Ground.guard }], guard := some (22, false) }) (v := undef) rfl (by kernel_rfl) (by kernel_rfl) (by kernel_rfl) rfl (fun _ _ _ h => h) (Or.inr ⟨by rfl, rfl⟩) (fun _ => by assumption) ?_
    try simp only [Act.put, List.setIfInBounds_toArray, List.set_cons_zero, List.set_cons_succ]
    refine takeW (i := 33) (oi := { dst := some 44, op := Op.pick (Operand.tmp 33) (Operand.const (Value.bool true)) (Operand.tmp 43), type := 4, pos := "pattern.go:52", after := #[{ on := 22, ground := Ground.data }, { on := 32, ground := Ground.data }], guard := none }) (v := ?va34) rfl (by kernel_rfl) (by kernel_rfl) (by kernel_rfl) rfl (fun _ _ _ h => h) (Or.inl ⟨by rfl, ?ya34⟩) (fun _ => by assumption) ?ra34
    case ya34 => (intro w _; go_simp; first | done | (with_reducible rfl))
    try simp only [Act.put, List.setIfInBounds_toArray, List.set_cons_zero, List.set_cons_succ]
    refine doneL (by kernel_rfl) ?_ _
    refine NoPanic.normal ?_
    go_wp2_with fail
    go_ret
    exact ⟨by rw [HE.out]; rfl, below_drew HB.out⟩

  have t2' : decide (R.height < s / R.width + x.height) = false := by simpa using t2
  by_cases t3 : 0 ≤ x.turn
  · have t3' : decide (0 ≤ x.turn) = true := by simpa using t3
    cases t4 : (x.turn == p.turn)
    · have t4' : (x.turn != p.turn) = true := by simp [bne, t4]
      have HE : Hid (atZ R x p s = false) := Lib.hid (by rw [HC.out, if_pos (.inr (.inr ⟨t3, by simpa using t4⟩))])
      refine wp_region_noPanic ?_
      refine beginL (S := (fun w' => w'.cell? ⟨w.heap.size, 1, none⟩ = some (.int .i64 R.width) ∧ w'.cell? ⟨w.heap.size, 2, none⟩ = some (.int .i64 R.height) ∧ w'.cell? ⟨w.heap.size + 1, 0, none⟩ = some (.int .i64 x.width) ∧ w'.cell? ⟨w.heap.size + 1, 1, none⟩ = some (.int .i64 x.height) ∧ w'.cell? ⟨w.heap.size + 1, 2, none⟩ = some (.slice ax x.cells.length cx) ∧ w'.cell? ⟨w.heap.size + 1, 3, none⟩ = some (.int .i64 x.turn) ∧ w'.cell? ⟨w.heap.size + 1 + 1, 0, none⟩ = some (.slice ac p.cells.length cc) ∧ w'.cell? ⟨w.heap.size + 1 + 1, 3, none⟩ = some (.int .i64 p.turn))) (L := []) (by kernel_rfl) ⟨r1, r2, x0, x1, x2, x3, p0, p3⟩ (fun hHeld => ?_)
      refine takeW (i := 0) (oi := { dst := some 11, op := Op.move (Operand.tmp 3), type := 3, pos := "pattern.go:52", after := #[], guard := none }) (v := ?va35) rfl (by kernel_rfl) (by kernel_rfl) (by kernel_rfl) rfl (fun _ _ _ h => h) (Or.inl ⟨by rfl, ?ya35⟩) (fun _ => by assumption) ?ra35
      case ya35 => (intro w _; go_simp; first | done | (with_reducible rfl))
      try simp only [Act.put, List.setIfInBounds_toArray, List.set_cons_zero, List.set_cons_succ]
      refine takeW (i := 1) (oi := { dst := some 12, op := Op.fieldAddr 26 (Operand.tmp 4) 1, type := 0, pos := "pattern.go:52", after := #[], guard := none }) (v := ?va36) rfl (by kernel_rfl) (by kernel_rfl) (by kernel_rfl) rfl (fun _ _ _ h => h) (Or.inl ⟨by rfl, ?ya36⟩) (fun _ => by assumption) ?ra36
      case ya36 => (intro w _; go_simp; first | done | (with_reducible rfl))
      try simp only [Act.put, List.setIfInBounds_toArray, List.set_cons_zero, List.set_cons_succ]
      refine takeW (i := 4) (oi := { dst := some 15, op := Op.fieldAddr 78 (Operand.tmp 5) 0, type := 0, pos := "pattern.go:52", after := #[], guard := none }) (v := ?va37) rfl (by kernel_rfl) (by kernel_rfl) (by kernel_rfl) rfl (fun _ _ _ h => h) (Or.inl ⟨by rfl, ?ya37⟩) (fun _ => by assumption) ?ra37
      case ya37 => (intro w _; go_simp; first | done | (with_reducible rfl))
      try simp only [Act.put, List.setIfInBounds_toArray, List.set_cons_zero, List.set_cons_succ]
      refine takeW (i := 7) (oi := { dst := some 18, op := Op.fieldAddr 26 (Operand.tmp 4) 1, type := 0, pos := "pattern.go:52", after := #[], guard := none }) (v := ?va38) rfl (by kernel_rfl) (by kernel_rfl) (by kernel_rfl) rfl (fun _ _ _ h => h) (Or.inl ⟨by rfl, ?ya38⟩) (fun _ => by assumption) ?ra38
      case ya38 => (intro w _; go_simp; first | done | (with_reducible rfl))
      try simp only [Act.put, List.setIfInBounds_toArray, List.set_cons_zero, List.set_cons_succ]
      refine takeL (i := 2) (oi := { dst := some 13, op := Op.load 3 (Operand.tmp 12), type := 3, pos := "pattern.go:52", after := #[{ on := 1, ground := Ground.data }], guard := none }) (v := ?va39) rfl (by kernel_rfl) (by kernel_rfl) (by kernel_rfl) (by kernel_rfl) rfl (by kernel_rfl) (by kernel_rfl) (fun _ _ _ h => h) (Or.inl ⟨by rfl, ?ya39⟩) (by assumption) ?ra39
      case ya39 => (intro w hSw; (try dsimp only at hSw); go_simp; first | done | (with_reducible rfl))
      try simp only [Act.put, List.setIfInBounds_toArray, List.set_cons_zero, List.set_cons_succ]
      refine takeL (i := 5) (oi := { dst := some 16, op := Op.load 3 (Operand.tmp 15), type := 3, pos := "pattern.go:52", after := #[{ on := 4, ground := Ground.data }], guard := none }) (v := ?va40) rfl (by kernel_rfl) (by kernel_rfl) (by kernel_rfl) (by kernel_rfl) rfl (by kernel_rfl) (by kernel_rfl) (fun _ _ _ h => h) (Or.inl ⟨by rfl, ?ya40⟩) (by assumption) ?ra40
      case ya40 => (intro w hSw; (try dsimp only at hSw); go_simp; first | done | (with_reducible rfl))
      try simp only [Act.put, List.setIfInBounds_toArray, List.set_cons_zero, List.set_cons_succ]
      refine takeL (i := 8) (oi := { dst := some 19, op := Op.load 3 (Operand.tmp 18), type := 3, pos := "pattern.go:52", after := #[{ on := 7, ground := Ground.data }], guard := none }) (v := ?va41) rfl (by kernel_rfl) (by kernel_rfl) (by kernel_rfl) (by kernel_rfl) rfl (by kernel_rfl) (by kernel_rfl) (fun _ _ _ h => h) (Or.inl ⟨by rfl, ?ya41⟩) (by assumption) ?ra41
      case ya41 => (intro w hSw; (try dsimp only at hSw); go_simp; first | done | (with_reducible rfl))
      try simp only [Act.put, List.setIfInBounds_toArray, List.set_cons_zero, List.set_cons_succ]
      refine takeW (i := 3) (oi := { dst := some 14, op := Op.binOp BinOp.rem 3 (Operand.tmp 11) (Operand.tmp 13) 3, type := 3, pos := "pattern.go:52", after := #[{ on := 0, ground := Ground.data }, { on := 2, ground := Ground.data }], guard := none }) (v := ?va42) rfl (by kernel_rfl) (by kernel_rfl) (by kernel_rfl) rfl (fun _ _ _ h => h) (Or.inl ⟨by rfl, ?ya42⟩) (fun _ => by assumption) ?ra42
      case ya42 => (intro w _; go_simp; first | done | (with_reducible rfl))
      try simp only [Act.put, List.setIfInBounds_toArray, List.set_cons_zero, List.set_cons_succ]
      refine takeW (i := 6) (oi := { dst := some 17, op := Op.binOp BinOp.add 3 (Operand.tmp 14) (Operand.tmp 16) 3, type := 3, pos := "pattern.go:52", after := #[{ on := 3, ground := Ground.data }, { on := 5, ground := Ground.data }], guard := none }) (v := ?va43) rfl (by kernel_rfl) (by kernel_rfl) (by kernel_rfl) rfl (fun _ _ _ h => h) (Or.inl ⟨by rfl, ?ya43⟩) (fun _ => by assumption) ?ra43
      case ya43 => (intro w _; go_simp; first | done | (with_reducible rfl))
      try simp only [Act.put, List.setIfInBounds_toArray, List.set_cons_zero, List.set_cons_succ]
      refine takeW (i := 9) (oi := { dst := some 20, op := Op.binOp BinOp.gtr 3 (Operand.tmp 17) (Operand.tmp 19) 3, type := 4, pos := "pattern.go:52", after := #[{ on := 6, ground := Ground.data }, { on := 8, ground := Ground.data }], guard := none }) (v := ?va44) rfl (by kernel_rfl) (by kernel_rfl) (by kernel_rfl) rfl (fun _ _ _ h => h) (Or.inl ⟨by rfl, ?ya44⟩) (fun _ => by assumption) ?ra44
      case ya44 => (intro w _; go_simp; first | done | (with_reducible rfl))
      try simp only [Act.put, List.setIfInBounds_toArray, List.set_cons_zero, List.set_cons_succ]
      refine takeW (i := 10) (oi := { dst := some 21, op := Op.move (Operand.tmp 20), type := 4, pos := "pattern.go:52", after := #[{ on := 9, ground := Ground.data }], guard := none }) (v := ?va45) rfl (by kernel_rfl) (by kernel_rfl) (by kernel_rfl) rfl (fun _ _ _ h => h) (Or.inl ⟨by rfl, ?ya45⟩) (fun _ => by assumption) ?ra45
      case ya45 => (intro w _; go_simp; first | done | (with_reducible rfl))
      try simp only [Act.put, List.setIfInBounds_toArray, List.set_cons_zero, List.set_cons_succ]
      refine takeW (i := 11) (oi := { dst := some 22, op := Op.move (Operand.tmp 3), type := 3, pos := "pattern.go:52", after := #[{ on := 10, ground := Ground.guard }], guard := some (10, false) }) (v := ?va46) rfl (by kernel_rfl) (by kernel_rfl) (by kernel_rfl) rfl (fun _ _ _ h => h) (Or.inl ⟨by rfl, ?ya46⟩) (fun _ => by assumption) ?ra46
      case ya46 => (intro w _; go_simp; first | done | (with_reducible rfl))
      try simp only [Act.put, List.setIfInBounds_toArray, List.set_cons_zero, List.set_cons_succ]
      refine takeW (i := 12) (oi := { dst := some 23, op := Op.fieldAddr 26 (Operand.tmp 4) 1, type := 0, pos := "pattern.go:52", after := #[{ on := 10, ground := Ground.guard }], guard := some (10, false) }) (v := ?va47) rfl (by kernel_rfl) (by kernel_rfl) (by kernel_rfl) rfl (fun _ _ _ h => h) (Or.inl ⟨by rfl, ?ya47⟩) (fun _ => by assumption) ?ra47
      case ya47 => (intro w _; go_simp; first | done | (with_reducible rfl))
      try simp only [Act.put, List.setIfInBounds_toArray, List.set_cons_zero, List.set_cons_succ]
      refine takeW (i := 15) (oi := { dst := some 26, op := Op.fieldAddr 78 (Operand.tmp 5) 1, type := 0, pos := "pattern.go:52", after := #[{ on := 10, ground := Ground.guard }], guard := some (10, false) }) (v := ?va48) rfl (by kernel_rfl) (by kernel_rfl) (by kernel_rfl) rfl (fun _ _ _ h => h) (Or.inl ⟨by rfl, ?ya48⟩) (fun _ => by assumption) ?ra48
      case ya48 => (intro w _; go_simp; first | done | (with_reducible rfl))
      try simp only [Act.put, List.setIfInBounds_toArray, List.set_cons_zero, List.set_cons_succ]
      refine takeW (i := 18) (oi := { dst := some 29, op := Op.fieldAddr 26 (Operand.tmp 4) 2, type := 0, pos := "pattern.go:52", after := #[{ on := 10, ground := Ground.guard }], guard := some (10, false) }) (v := ?va49) rfl (by kernel_rfl) (by kernel_rfl) (by kernel_rfl) rfl (fun _ _ _ h => h) (Or.inl ⟨by rfl, ?ya49⟩) (fun _ => by assumption) ?ra49
      case ya49 => (intro w _; go_simp; first | done | (with_reducible rfl))
      try simp only [Act.put, List.setIfInBounds_toArray, List.set_cons_zero, List.set_cons_succ]
      refine takeL (i := 13) (oi := { dst := some 24, op := Op.load 3 (Operand.tmp 23), type := 3, pos := "pattern.go:52", after := #[{ on := 12, ground := Ground.data }, { on := 10, ground := Ground.guard }], guard := some (10, false) }) (v := ?va50) rfl (by kernel_rfl) (by kernel_rfl) (by kernel_rfl) (by kernel_rfl) rfl (by kernel_rfl) (by kernel_rfl) (fun _ _ _ h => h) (Or.inl ⟨by rfl, ?ya50⟩) (by assumption) ?ra50
      case ya50 => (intro w hSw; (try dsimp only at hSw); go_simp; first | done | (with_reducible rfl))
      try simp only [Act.put, List.setIfInBounds_toArray, List.set_cons_zero, List.set_cons_succ]
      refine takeL (i := 16) (oi := { dst := some 27, op := Op.load 3 (Operand.tmp 26), type := 3, pos := "pattern.go:52", after := #[{ on := 15, ground := Ground.data }, { on := 10, ground := Ground.guard }], guard := some (10, false) }) (v := ?va51) rfl (by kernel_rfl) (by kernel_rfl) (by kernel_rfl) (by kernel_rfl) rfl (by kernel_rfl) (by kernel_rfl) (fun _ _ _ h => h) (Or.inl ⟨by rfl, ?ya51⟩) (by assumption) ?ra51
      case ya51 => (intro w hSw; (try dsimp only at hSw); go_simp; first | done | (with_reducible rfl))
      try simp only [Act.put, List.setIfInBounds_toArray, List.set_cons_zero, List.set_cons_succ]
      refine takeL (i := 19) (oi := { dst := some 30, op := Op.load 3 (Operand.tmp 29), type := 3, pos := "pattern.go:52", after := #[{ on := 18, ground := Ground.data }, { on := 10, ground := Ground.guard }], guard := some (10, false) }) (v := ?va52) rfl (by kernel_rfl) (by kernel_rfl) (by kernel_rfl) (by kernel_rfl) rfl (by kernel_rfl) (by kernel_rfl) (fun _ _ _ h => h) (Or.inl ⟨by rfl, ?ya52⟩) (by assumption) ?ra52
      case ya52 => (intro w hSw; (try dsimp only at hSw); go_simp; first | done | (with_reducible rfl))
      try simp only [Act.put, List.setIfInBounds_toArray, List.set_cons_zero, List.set_cons_succ]
      refine takeW (i := 14) (oi := { dst := some 25, op := Op.binOp BinOp.quo 3 (Operand.tmp 22) (Operand.tmp 24) 3, type := 3, pos := "pattern.go:52", after := #[{ on := 11, ground := Ground.data }, { on := 13, ground := Ground.data }, { on := 10, ground := Ground.guard }], guard := some (10, false) }) (v := ?va53) rfl (by kernel_rfl) (by kernel_rfl) (by kernel_rfl) rfl (fun _ _ _ h => h) (Or.inl ⟨by rfl, ?ya53⟩) (fun _ => by assumption) ?ra53
      case ya53 => (intro w _; go_simp; first | done | (with_reducible rfl))
      try simp only [Act.put, List.setIfInBounds_toArray, List.set_cons_zero, List.set_cons_succ]
      refine takeW (i := 17) (oi := { dst := some 28, op := Op.binOp BinOp.add 3 (Operand.tmp 25) (Operand.tmp 27) 3, type := 3, pos := "pattern.go:52", after := #[{ on := 14, ground := Ground.data }, { on := 16, ground := Ground.data }, { on := 10, ground := Ground.guard }], guard := some (10, false) }) (v := ?va54) rfl (by kernel_rfl) (by kernel_rfl) (by kernel_rfl) rfl (fun _ _ _ h => h) (Or.inl ⟨by rfl, ?ya54⟩) (fun _ => by assumption) ?ra54
      case ya54 => (intro w _; go_simp; first | done | (with_reducible rfl))
      try simp only [Act.put, List.setIfInBounds_toArray, List.set_cons_zero, List.set_cons_succ]
      refine takeW (i := 20) (oi := { dst := some 31, op := Op.binOp BinOp.gtr 3 (Operand.tmp 28) (Operand.tmp 30) 3, type := 4, pos := "pattern.go:52", after := #[{ on := 17, ground := Ground.data }, { on := 19, ground := Ground.data }, { on := 10, ground := Ground.guard }], guard := some (10, false) }) (v := ?va55) rfl (by kernel_rfl) (by kernel_rfl) (by kernel_rfl) rfl (fun _ _ _ h => h) (Or.inl ⟨by rfl, ?ya55⟩) (fun _ => by assumption) ?ra55
      case ya55 => (intro w _; go_simp; first | done | (with_reducible rfl))
      try simp only [Act.put, List.setIfInBounds_toArray, List.set_cons_zero, List.set_cons_succ]
      refine takeW (i := 21) (oi := { dst := some 32, op := Op.pick (Operand.tmp 21) (Operand.const (Value.bool true)) (Operand.tmp 31), type := 4, pos := "pattern.go:52", after := #[{ on := 10, ground := Ground.data }, { on := 20, ground := Ground.data }], guard := none }) (v := ?va56) rfl (by kernel_rfl) (by kernel_rfl) (by kernel_rfl) rfl (fun _ _ _ h => h) (Or.inl ⟨by rfl, ?ya56⟩) (fun _ => by assumption) ?ra56
      case ya56 => (intro w _; go_simp; first | done | (with_reducible rfl))
      try simp only [Act.put, List.setIfInBounds_toArray, List.set_cons_zero, List.set_cons_succ]
      refine takeW (i := 22) (oi := { dst := some 33, op := Op.move (Operand.tmp 32), type := 4, pos := "pattern.go:52", after := #[{ on := 21, ground := Ground.data }, { on := 10, ground := Ground.chain }], guard := none }) (v := ?va57) rfl (by kernel_rfl) (by kernel_rfl) (by kernel_rfl) rfl (fun _ _ _ h => h) (Or.inl ⟨by rfl, ?ya57⟩) (fun _ => by assumption) ?ra57
      case ya57 => (intro w _; go_simp; first | done | (with_reducible rfl))
      try simp only [Act.put, List.setIfInBounds_toArray, List.set_cons_zero, List.set_cons_succ]
      refine takeW (i := 23) (oi := { dst := some 34, op := Op.fieldAddr 78 (Operand.tmp 5) 3, type := 0, pos := "pattern.go:52", after := #[{ on := 22, ground := Ground.guard }], guard := some (22, false) }) (v := ?va58) rfl (by kernel_rfl) (by kernel_rfl) (by kernel_rfl) rfl (fun _ _ _ h => h) (Or.inl ⟨by rfl, ?ya58⟩) (fun _ => by assumption) ?ra58
      case ya58 => (intro w _; go_simp; first | done | (with_reducible rfl))
      try simp only [Act.put, List.setIfInBounds_toArray, List.set_cons_zero, List.set_cons_succ]
      refine takeL (i := 24) (oi := { dst := some 35, op := Op.load 3 (Operand.tmp 34), type := 3, pos := "pattern.go:52", after := #[{ on := 23, ground := Ground.data }, { on := 22, ground := Ground.guard }], guard := some (22, false) }) (v := ?va59) rfl (by kernel_rfl) (by kernel_rfl) (by kernel_rfl) (by kernel_rfl) rfl (by kernel_rfl) (by kernel_rfl) (fun _ _ _ h => h) (Or.inl ⟨by rfl, ?ya59⟩) (by assumption) ?ra59
      case ya59 => (intro w hSw; (try dsimp only at hSw); go_simp; first | done | (with_reducible rfl))
      try simp only [Act.put, List.setIfInBounds_toArray, List.set_cons_zero, List.set_cons_succ]
      refine takeW (i := 25) (oi := { dst := some 36, op := Op.binOp BinOp.geq 3 (Operand.tmp 35) (Operand.const (Value.int IntKind.i64 0)) 3, type := 4, pos := "pattern.go:52", after := #[{ on := 24, ground := Ground.data }, { on := 22, ground := Ground.guard }], guard := some (22, false) }) (v := ?va60) rfl (by kernel_rfl) (by kernel_rfl) (by kernel_rfl) rfl (fun _ _ _ h => h) (Or.inl ⟨by rfl, ?ya60⟩) (fun _ => by assumption) ?ra60
      case ya60 => (intro w _; go_simp; first | done | (with_reducible rfl))
      try simp only [Act.put, List.setIfInBounds_toArray, List.set_cons_zero, List.set_cons_succ]
      refine takeW (i := 26) (oi := { dst := some 37, op := Op.move (Operand.tmp 36), type := 4, pos := "pattern.go:52", after := #[{ on := 25, ground := Ground.data }, { on := 22, ground := Ground.chain }, { on := 22, ground := Ground.guard }], guard := some (22, false) }) (v := ?va61) rfl (by kernel_rfl) (by kernel_rfl) (by kernel_rfl) rfl (fun _ _ _ h => h) (Or.inl ⟨by rfl, ?ya61⟩) (fun _ => by assumption) ?ra61
      case ya61 => (intro w _; go_simp; first | done | (with_reducible rfl))
      try simp only [Act.put, List.setIfInBounds_toArray, List.set_cons_zero, List.set_cons_succ]
      refine takeW (i := 27) (oi := { dst := some 38, op := Op.fieldAddr 78 (Operand.tmp 5) 3, type := 0, pos := "pattern.go:52", after := #[{ on := 26, ground := Ground.guard }], guard := some (26, true) }) (v := ?va62) rfl (by kernel_rfl) (by kernel_rfl) (by kernel_rfl) rfl (fun _ _ _ h => h) (Or.inl ⟨by rfl, ?ya62⟩) (fun _ => by assumption) ?ra62
      case ya62 => (intro w _; go_simp; first | done | (with_reducible rfl))
      try simp only [Act.put, List.setIfInBounds_toArray, List.set_cons_zero, List.set_cons_succ]
      refine takeW (i := 29) (oi := { dst := some 40, op := Op.fieldAddr 37 (Operand.tmp 6) 2, type := 0, pos := "pattern.go:52", after := #[{ on := 26, ground := Ground.guard }], guard := some (26, true) }) (v := ?va63) rfl (by kernel_rfl) (by kernel_rfl) (by kernel_rfl) rfl (fun _ _ _ h => h) (Or.inl ⟨by rfl, ?ya63⟩) (fun _ => by assumption) ?ra63
      case ya63 => (intro w _; go_simp; first | done | (with_reducible rfl))
      try simp only [Act.put, List.setIfInBounds_toArray, List.set_cons_zero, List.set_cons_succ]
      refine takeL (i := 28) (oi := { dst := some 39, op := Op.load 3 (Operand.tmp 38), type := 3, pos := "pattern.go:52", after := #[{ on := 27, ground := Ground.data }, { on := 26, ground := Ground.guard }], guard := some (26, true) }) (v := ?va64) rfl (by kernel_rfl) (by kernel_rfl) (by kernel_rfl) (by kernel_rfl) rfl (by kernel_rfl) (by kernel_rfl) (fun _ _ _ h => h) (Or.inl ⟨by rfl, ?ya64⟩) (by assumption) ?ra64
      case ya64 => (intro w hSw; (try dsimp only at hSw); go_simp; first | done | (with_reducible rfl))
      try simp only [Act.put, List.setIfInBounds_toArray, List.set_cons_zero, List.set_cons_succ]
      refine takeL (i := 30) (oi := { dst := some 41, op := Op.load 3 (Operand.tmp 40), type := 3, pos := "pattern.go:52", after := #[{ on := 29, ground := Ground.data }, { on := 26, ground := Ground.guard }], guard := some (26, true) }) (v := ?va65) rfl (by kernel_rfl) (by kernel_rfl) (by kernel_rfl) (by kernel_rfl) rfl (by kernel_rfl) (by kernel_rfl) (fun _ _ _ h => h) (Or.inl ⟨by rfl, ?ya65⟩) (by assumption) ?ra65
      case ya65 => (intro w hSw; (try dsimp only at hSw); go_simp; first | done | (with_reducible rfl))
      try simp only [Act.put, List.setIfInBounds_toArray, List.set_cons_zero, List.set_cons_succ]
      refine takeW (i := 31) (oi := { dst := some 42, op := Op.binOp BinOp.neq 3 (Operand.tmp 39) (Operand.tmp 41) 3, type := 4, pos := "pattern.go:52", after := #[{ on := 28, ground := Ground.data }, { on := 30, ground := Ground.data }, { on := 26, ground := Ground.guard }], guard := some (26, true) }) (v := ?va66) rfl (by kernel_rfl) (by kernel_rfl) (by kernel_rfl) rfl (fun _ _ _ h => h) (Or.inl ⟨by rfl, ?ya66⟩) (fun _ => by assumption) ?ra66
      case ya66 => (intro w _; go_simp; first | done | (with_reducible rfl))
      try simp only [Act.put, List.setIfInBounds_toArray, List.set_cons_zero, List.set_cons_succ]
      refine takeW (i := 32) (oi := { dst := some 43, op := Op.pick (Operand.tmp 37) (Operand.tmp 42) (Operand.const (Value.bool false)), type := 4, pos := "pattern.go:52", after := #[{ on := 26, ground := Ground.data }, { on := 31, ground := Ground.data }, { on := 22, ground := Ground.guard }], guard := some (22, false) }) (v := ?va67) rfl (by kernel_rfl) (by kernel_rfl) (by kernel_rfl) rfl (fun _ _ _ h => h) (Or.inl ⟨by rfl, ?ya67⟩) (fun _ => by assumption) ?ra67
      case ya67 => (intro w _; go_simp; first | done | (with_reducible rfl))
      try simp only [Act.put, List.setIfInBounds_toArray, List.set_cons_zero, List.set_cons_succ]
      refine takeW (i := 33) (oi := { dst := some 44, op := Op.pick (Operand.tmp 33) (Operand.const (Value.bool true)) (Operand.tmp 43), type := 4, pos := "pattern.go:52", after := #[{ on := 22, ground := Ground.data }, { on := 32, ground := Ground.data }], guard := none }) (v := ?va68) rfl (by kernel_rfl) (by kernel_rfl) (by kernel_rfl) rfl (fun _ _ _ h => h) (Or.inl ⟨by rfl, ?ya68⟩) (fun _ => by assumption) ?ra68
      case ya68 => (intro w _; go_simp; first | done | (with_reducible rfl))
      try simp only [Act.put, List.setIfInBounds_toArray, List.set_cons_zero, List.set_cons_succ]
      refine doneL (by kernel_rfl) ?_ _
      refine NoPanic.normal ?_
      go_wp2_with fail
      go_ret
      exact ⟨by rw [HE.out]; rfl, below_drew HB.out⟩

    have t4' : (x.turn != p.turn) = false := by simp [bne, t4]
    have HT4 : Hid (x.turn = p.turn) := Lib.hid (by simpa using t4)
    have HE := Lib.hid (by have := HC.out; rw [if_neg (by rintro (h | h | ⟨_, h⟩) <;> first | exact t1 h | exact t2 h | exact h HT4.out)] at this; exact this)
    clear t4
    refine wp_region_noPanic ?_
    refine beginL (S := (fun w' => w'.cell? ⟨w.heap.size, 1, none⟩ = some (.int .i64 R.width) ∧ w'.cell? ⟨w.heap.size, 2, none⟩ = some (.int .i64 R.height) ∧ w'.cell? ⟨w.heap.size + 1, 0, none⟩ = some (.int .i64 x.width) ∧ w'.cell? ⟨w.heap.size + 1, 1, none⟩ = some (.int .i64 x.height) ∧ w'.cell? ⟨w.heap.size + 1, 2, none⟩ = some (.slice ax x.cells.length cx) ∧ w'.cell? ⟨w.heap.size + 1, 3, none⟩ = some (.int .i64 x.turn) ∧ w'.cell? ⟨w.heap.size + 1 + 1, 0, none⟩ = some (.slice ac p.cells.length cc) ∧ w'.cell? ⟨w.heap.size + 1 + 1, 3, none⟩ = some (.int .i64 p.turn))) (L := []) (by kernel_rfl) ⟨r1, r2, x0, x1, x2, x3, p0, p3⟩ (fun hHeld => ?_)
    refine takeW (i := 0) (oi := { dst := some 11, op := Op.move (Operand.tmp 3), type := 3, pos := "pattern.go:52", after := #[], guard := none }) (v := ?va69) rfl (by kernel_rfl) (by kernel_rfl) (by kernel_rfl) rfl (fun _ _ _ h => h) (Or.inl ⟨by rfl, ?ya69⟩) (fun _ => by assumption) ?ra69
    case ya69 => (intro w _; go_simp; first | done | (with_reducible rfl))
    try simp only [Act.put, List.setIfInBounds_toArray, List.set_cons_zero, List.set_cons_succ]
    refine takeW (i := 1) (oi := { dst := some 12, op := Op.fieldAddr 26 (Operand.tmp 4) 1, type := 0, pos := "pattern.go:52", after := #[], guard := none }) (v := ?va70) rfl (by kernel_rfl) (by kernel_rfl) (by kernel_rfl) rfl (fun _ _ _ h => h) (Or.inl ⟨by rfl, ?ya70⟩) (fun _ => by assumption) ?ra70
    case ya70 => (intro w _; go_simp; first | done | (with_reducible rfl))
    try simp only [Act.put, List.setIfInBounds_toArray, List.set_cons_zero, List.set_cons_succ]
    refine takeW (i := 4) (oi := { dst := some 15, op := Op.fieldAddr 78 (Operand.tmp 5) 0, type := 0, pos := "pattern.go:52", after := #[], guard := none }) (v := ?va71) rfl (by kernel_rfl) (by kernel_rfl) (by kernel_rfl) rfl (fun _ _ _ h => h) (Or.inl ⟨by rfl, ?ya71⟩) (fun _ => by assumption) ?ra71
    case ya71 => (intro w _; go_simp; first | done | (with_reducible rfl))
    try simp only [Act.put, List.setIfInBounds_toArray, List.set_cons_zero, List.set_cons_succ]
    refine takeW (i := 7) (oi := { dst := some 18, op := Op.fieldAddr 26 (Operand.tmp 4) 1, type := 0, pos := "pattern.go:52", after := #[], guard := none }) (v := ?va72) rfl (by kernel_rfl) (by kernel_rfl) (by kernel_rfl) rfl (fun _ _ _ h => h) (Or.inl ⟨by rfl, ?ya72⟩) (fun _ => by assumption) ?ra72
    case ya72 => (intro w _; go_simp; first | done | (with_reducible rfl))
    try simp only [Act.put, List.setIfInBounds_toArray, List.set_cons_zero, List.set_cons_succ]
    refine takeL (i := 2) (oi := { dst := some 13, op := Op.load 3 (Operand.tmp 12), type := 3, pos := "pattern.go:52", after := #[{ on := 1, ground := Ground.data }], guard := none }) (v := ?va73) rfl (by kernel_rfl) (by kernel_rfl) (by kernel_rfl) (by kernel_rfl) rfl (by kernel_rfl) (by kernel_rfl) (fun _ _ _ h => h) (Or.inl ⟨by rfl, ?ya73⟩) (by assumption) ?ra73
    case ya73 => (intro w hSw; (try dsimp only at hSw); go_simp; first | done | (with_reducible rfl))
    try simp only [Act.put, List.setIfInBounds_toArray, List.set_cons_zero, List.set_cons_succ]
    refine takeL (i := 5) (oi := { dst := some 16, op := Op.load 3 (Operand.tmp 15), type := 3, pos := "pattern.go:52", after := #[{ on := 4, ground := Ground.data }], guard := none }) (v := ?va74) rfl (by kernel_rfl) (by kernel_rfl) (by kernel_rfl) (by kernel_rfl) rfl (by kernel_rfl) (by kernel_rfl) (fun _ _ _ h => h) (Or.inl ⟨by rfl, ?ya74⟩) (by assumption) ?ra74
    case ya74 => (intro w hSw; (try dsimp only at hSw); go_simp; first | done | (with_reducible rfl))
    try simp only [Act.put, List.setIfInBounds_toArray, List.set_cons_zero, List.set_cons_succ]
    refine takeL (i := 8) (oi := { dst := some 19, op := Op.load 3 (Operand.tmp 18), type := 3, pos := "pattern.go:52", after := #[{ on := 7, ground := Ground.data }], guard := none }) (v := ?va75) rfl (by kernel_rfl) (by kernel_rfl) (by kernel_rfl) (by kernel_rfl) rfl (by kernel_rfl) (by kernel_rfl) (fun _ _ _ h => h) (Or.inl ⟨by rfl, ?ya75⟩) (by assumption) ?ra75
    case ya75 => (intro w hSw; (try dsimp only at hSw); go_simp; first | done | (with_reducible rfl))
    try simp only [Act.put, List.setIfInBounds_toArray, List.set_cons_zero, List.set_cons_succ]
    refine takeW (i := 3) (oi := { dst := some 14, op := Op.binOp BinOp.rem 3 (Operand.tmp 11) (Operand.tmp 13) 3, type := 3, pos := "pattern.go:52", after := #[{ on := 0, ground := Ground.data }, { on := 2, ground := Ground.data }], guard := none }) (v := ?va76) rfl (by kernel_rfl) (by kernel_rfl) (by kernel_rfl) rfl (fun _ _ _ h => h) (Or.inl ⟨by rfl, ?ya76⟩) (fun _ => by assumption) ?ra76
    case ya76 => (intro w _; go_simp; first | done | (with_reducible rfl))
    try simp only [Act.put, List.setIfInBounds_toArray, List.set_cons_zero, List.set_cons_succ]
    refine takeW (i := 6) (oi := { dst := some 17, op := Op.binOp BinOp.add 3 (Operand.tmp 14) (Operand.tmp 16) 3, type := 3, pos := "pattern.go:52", after := #[{ on := 3, ground := Ground.data }, { on := 5, ground := Ground.data }], guard := none }) (v := ?va77) rfl (by kernel_rfl) (by kernel_rfl) (by kernel_rfl) rfl (fun _ _ _ h => h) (Or.inl ⟨by rfl, ?ya77⟩) (fun _ => by assumption) ?ra77
    case ya77 => (intro w _; go_simp; first | done | (with_reducible rfl))
    try simp only [Act.put, List.setIfInBounds_toArray, List.set_cons_zero, List.set_cons_succ]
    refine takeW (i := 9) (oi := { dst := some 20, op := Op.binOp BinOp.gtr 3 (Operand.tmp 17) (Operand.tmp 19) 3, type := 4, pos := "pattern.go:52", after := #[{ on := 6, ground := Ground.data }, { on := 8, ground := Ground.data }], guard := none }) (v := ?va78) rfl (by kernel_rfl) (by kernel_rfl) (by kernel_rfl) rfl (fun _ _ _ h => h) (Or.inl ⟨by rfl, ?ya78⟩) (fun _ => by assumption) ?ra78
    case ya78 => (intro w _; go_simp; first | done | (with_reducible rfl))
    try simp only [Act.put, List.setIfInBounds_toArray, List.set_cons_zero, List.set_cons_succ]
    refine takeW (i := 10) (oi := { dst := some 21, op := Op.move (Operand.tmp 20), type := 4, pos := "pattern.go:52", after := #[{ on := 9, ground := Ground.data }], guard := none }) (v := ?va79) rfl (by kernel_rfl) (by kernel_rfl) (by kernel_rfl) rfl (fun _ _ _ h => h) (Or.inl ⟨by rfl, ?ya79⟩) (fun _ => by assumption) ?ra79
    case ya79 => (intro w _; go_simp; first | done | (with_reducible rfl))
    try simp only [Act.put, List.setIfInBounds_toArray, List.set_cons_zero, List.set_cons_succ]
    refine takeW (i := 11) (oi := { dst := some 22, op := Op.move (Operand.tmp 3), type := 3, pos := "pattern.go:52", after := #[{ on := 10, ground := Ground.guard }], guard := some (10, false) }) (v := ?va80) rfl (by kernel_rfl) (by kernel_rfl) (by kernel_rfl) rfl (fun _ _ _ h => h) (Or.inl ⟨by rfl, ?ya80⟩) (fun _ => by assumption) ?ra80
    case ya80 => (intro w _; go_simp; first | done | (with_reducible rfl))
    try simp only [Act.put, List.setIfInBounds_toArray, List.set_cons_zero, List.set_cons_succ]
    refine takeW (i := 12) (oi := { dst := some 23, op := Op.fieldAddr 26 (Operand.tmp 4) 1, type := 0, pos := "pattern.go:52", after := #[{ on := 10, ground := Ground.guard }], guard := some (10, false) }) (v := ?va81) rfl (by kernel_rfl) (by kernel_rfl) (by kernel_rfl) rfl (fun _ _ _ h => h) (Or.inl ⟨by rfl, ?ya81⟩) (fun _ => by assumption) ?ra81
    case ya81 => (intro w _; go_simp; first | done | (with_reducible rfl))
    try simp only [Act.put, List.setIfInBounds_toArray, List.set_cons_zero, List.set_cons_succ]
    refine takeW (i := 15) (oi := { dst := some 26, op := Op.fieldAddr 78 (Operand.tmp 5) 1, type := 0, pos := "pattern.go:52", after := #[{ on := 10, ground := Ground.guard }], guard := some (10, false) }) (v := ?va82) rfl (by kernel_rfl) (by kernel_rfl) (by kernel_rfl) rfl (fun _ _ _ h => h) (Or.inl ⟨by rfl, ?ya82⟩) (fun _ => by assumption) ?ra82
    case ya82 => (intro w _; go_simp; first | done | (with_reducible rfl))
    try simp only [Act.put, List.setIfInBounds_toArray, List.set_cons_zero, List.set_cons_succ]
    refine takeW (i := 18) (oi := { dst := some 29, op := Op.fieldAddr 26 (Operand.tmp 4) 2, type := 0, pos := "pattern.go:52", after := #[{ on := 10, ground := Ground.guard }], guard := some (10, false) }) (v := ?va83) rfl (by kernel_rfl) (by kernel_rfl) (by kernel_rfl) rfl (fun _ _ _ h => h) (Or.inl ⟨by rfl, ?ya83⟩) (fun _ => by assumption) ?ra83
    case ya83 => (intro w _; go_simp; first | done | (with_reducible rfl))
    try simp only [Act.put, List.setIfInBounds_toArray, List.set_cons_zero, List.set_cons_succ]
    refine takeL (i := 13) (oi := { dst := some 24, op := Op.load 3 (Operand.tmp 23), type := 3, pos := "pattern.go:52", after := #[{ on := 12, ground := Ground.data }, { on := 10, ground := Ground.guard }], guard := some (10, false) }) (v := ?va84) rfl (by kernel_rfl) (by kernel_rfl) (by kernel_rfl) (by kernel_rfl) rfl (by kernel_rfl) (by kernel_rfl) (fun _ _ _ h => h) (Or.inl ⟨by rfl, ?ya84⟩) (by assumption) ?ra84
    case ya84 => (intro w hSw; (try dsimp only at hSw); go_simp; first | done | (with_reducible rfl))
    try simp only [Act.put, List.setIfInBounds_toArray, List.set_cons_zero, List.set_cons_succ]
    refine takeL (i := 16) (oi := { dst := some 27, op := Op.load 3 (Operand.tmp 26), type := 3, pos := "pattern.go:52", after := #[{ on := 15, ground := Ground.data }, { on := 10, ground := Ground.guard }], guard := some (10, false) }) (v := ?va85) rfl (by kernel_rfl) (by kernel_rfl) (by kernel_rfl) (by kernel_rfl) rfl (by kernel_rfl) (by kernel_rfl) (fun _ _ _ h => h) (Or.inl ⟨by rfl, ?ya85⟩) (by assumption) ?ra85
    case ya85 => (intro w hSw; (try dsimp only at hSw); go_simp; first | done | (with_reducible rfl))
    try simp only [Act.put, List.setIfInBounds_toArray, List.set_cons_zero, List.set_cons_succ]
    refine takeL (i := 19) (oi := { dst := some 30, op := Op.load 3 (Operand.tmp 29), type := 3, pos := "pattern.go:52", after := #[{ on := 18, ground := Ground.data }, { on := 10, ground := Ground.guard }], guard := some (10, false) }) (v := ?va86) rfl (by kernel_rfl) (by kernel_rfl) (by kernel_rfl) (by kernel_rfl) rfl (by kernel_rfl) (by kernel_rfl) (fun _ _ _ h => h) (Or.inl ⟨by rfl, ?ya86⟩) (by assumption) ?ra86
    case ya86 => (intro w hSw; (try dsimp only at hSw); go_simp; first | done | (with_reducible rfl))
    try simp only [Act.put, List.setIfInBounds_toArray, List.set_cons_zero, List.set_cons_succ]
    refine takeW (i := 14) (oi := { dst := some 25, op := Op.binOp BinOp.quo 3 (Operand.tmp 22) (Operand.tmp 24) 3, type := 3, pos := "pattern.go:52", after := #[{ on := 11, ground := Ground.data }, { on := 13, ground := Ground.data }, { on := 10, ground := Ground.guard }], guard := some (10, false) }) (v := ?va87) rfl (by kernel_rfl) (by kernel_rfl) (by kernel_rfl) rfl (fun _ _ _ h => h) (Or.inl ⟨by rfl, ?ya87⟩) (fun _ => by assumption) ?ra87
    case ya87 => (intro w _; go_simp; first | done | (with_reducible rfl))
    try simp only [Act.put, List.setIfInBounds_toArray, List.set_cons_zero, List.set_cons_succ]
    refine takeW (i := 17) (oi := { dst := some 28, op := Op.binOp BinOp.add 3 (Operand.tmp 25) (Operand.tmp 27) 3, type := 3, pos := "pattern.go:52", after := #[{ on := 14, ground := Ground.data }, { on := 16, ground := Ground.data }, { on := 10, ground := Ground.guard }], guard := some (10, false) }) (v := ?va88) rfl (by kernel_rfl) (by kernel_rfl) (by kernel_rfl) rfl (fun _ _ _ h => h) (Or.inl ⟨by rfl, ?ya88⟩) (fun _ => by assumption) ?ra88
    case ya88 => (intro w _; go_simp; first | done | (with_reducible rfl))
    try simp only [Act.put, List.setIfInBounds_toArray, List.set_cons_zero, List.set_cons_succ]
    refine takeW (i := 20) (oi := { dst := some 31, op := Op.binOp BinOp.gtr 3 (Operand.tmp 28) (Operand.tmp 30) 3, type := 4, pos := "pattern.go:52", after := #[{ on := 17, ground := Ground.data }, { on := 19, ground := Ground.data }, { on := 10, ground := Ground.guard }], guard := some (10, false) }) (v := ?va89) rfl (by kernel_rfl) (by kernel_rfl) (by kernel_rfl) rfl (fun _ _ _ h => h) (Or.inl ⟨by rfl, ?ya89⟩) (fun _ => by assumption) ?ra89
    case ya89 => (intro w _; go_simp; first | done | (with_reducible rfl))
    try simp only [Act.put, List.setIfInBounds_toArray, List.set_cons_zero, List.set_cons_succ]
    refine takeW (i := 21) (oi := { dst := some 32, op := Op.pick (Operand.tmp 21) (Operand.const (Value.bool true)) (Operand.tmp 31), type := 4, pos := "pattern.go:52", after := #[{ on := 10, ground := Ground.data }, { on := 20, ground := Ground.data }], guard := none }) (v := ?va90) rfl (by kernel_rfl) (by kernel_rfl) (by kernel_rfl) rfl (fun _ _ _ h => h) (Or.inl ⟨by rfl, ?ya90⟩) (fun _ => by assumption) ?ra90
    case ya90 => (intro w _; go_simp; first | done | (with_reducible rfl))
    try simp only [Act.put, List.setIfInBounds_toArray, List.set_cons_zero, List.set_cons_succ]
    refine takeW (i := 22) (oi := { dst := some 33, op := Op.move (Operand.tmp 32), type := 4, pos := "pattern.go:52", after := #[{ on := 21, ground := Ground.data }, { on := 10, ground := Ground.chain }], guard := none }) (v := ?va91) rfl (by kernel_rfl) (by kernel_rfl) (by kernel_rfl) rfl (fun _ _ _ h => h) (Or.inl ⟨by rfl, ?ya91⟩) (fun _ => by assumption) ?ra91
    case ya91 => (intro w _; go_simp; first | done | (with_reducible rfl))
    try simp only [Act.put, List.setIfInBounds_toArray, List.set_cons_zero, List.set_cons_succ]
    refine takeW (i := 23) (oi := { dst := some 34, op := Op.fieldAddr 78 (Operand.tmp 5) 3, type := 0, pos := "pattern.go:52", after := #[{ on := 22, ground := Ground.guard }], guard := some (22, false) }) (v := ?va92) rfl (by kernel_rfl) (by kernel_rfl) (by kernel_rfl) rfl (fun _ _ _ h => h) (Or.inl ⟨by rfl, ?ya92⟩) (fun _ => by assumption) ?ra92
    case ya92 => (intro w _; go_simp; first | done | (with_reducible rfl))
    try simp only [Act.put, List.setIfInBounds_toArray, List.set_cons_zero, List.set_cons_succ]
    refine takeL (i := 24) (oi := { dst := some 35, op := Op.load 3 (Operand.tmp 34), type := 3, pos := "pattern.go:52", after := #[{ on := 23, ground := Ground.data }, { on := 22, ground := Ground.guard }], guard := some (22, false) }) (v := ?va93) rfl (by kernel_rfl) (by kernel_rfl) (by kernel_rfl) (by kernel_rfl) rfl (by kernel_rfl) (by kernel_rfl) (fun _ _ _ h => h) (Or.inl ⟨by rfl, ?ya93⟩) (by assumption) ?ra93
    case ya93 => (intro w hSw; (try dsimp only at hSw); go_simp; first | done | (with_reducible rfl))
    try simp only [Act.put, List.setIfInBounds_toArray, List.set_cons_zero, List.set_cons_succ]
    refine takeW (i := 25) (oi := { dst := some 36, op := Op.binOp BinOp.geq 3 (Operand.tmp 35) (Operand.const (Value.int IntKind.i64 0)) 3, type := 4, pos := "pattern.go:52", after := #[{ on := 24, ground := Ground.data }, { on := 22, ground := Ground.guard }], guard := some (22, false) }) (v := ?va94) rfl (by kernel_rfl) (by kernel_rfl) (by kernel_rfl) rfl (fun _ _ _ h => h) (Or.inl ⟨by rfl, ?ya94⟩) (fun _ => by assumption) ?ra94
    case ya94 => (intro w _; go_simp; first | done | (with_reducible rfl))
    try simp only [Act.put, List.setIfInBounds_toArray, List.set_cons_zero, List.set_cons_succ]
    refine takeW (i := 26) (oi := { dst := some 37, op := Op.move (Operand.tmp 36), type := 4, pos := "pattern.go:52", after := #[{ on := 25, ground := Ground.data }, { on := 22, ground := Ground.chain }, { on := 22, ground := Ground.guard }], guard := some (22, false) }) (v := ?va95) rfl (by kernel_rfl) (by kernel_rfl) (by kernel_rfl) rfl (fun _ _ _ h => h) (Or.inl ⟨by rfl, ?ya95⟩) (fun _ => by assumption) ?ra95
    case ya95 => (intro w _; go_simp; first | done | (with_reducible rfl))
    try simp only [Act.put, List.setIfInBounds_toArray, List.set_cons_zero, List.set_cons_succ]
    refine takeW (i := 27) (oi := { dst := some 38, op := Op.fieldAddr 78 (Operand.tmp 5) 3, type := 0, pos := "pattern.go:52", after := #[{ on := 26, ground := Ground.guard }], guard := some (26, true) }) (v := ?va96) rfl (by kernel_rfl) (by kernel_rfl) (by kernel_rfl) rfl (fun _ _ _ h => h) (Or.inl ⟨by rfl, ?ya96⟩) (fun _ => by assumption) ?ra96
    case ya96 => (intro w _; go_simp; first | done | (with_reducible rfl))
    try simp only [Act.put, List.setIfInBounds_toArray, List.set_cons_zero, List.set_cons_succ]
    refine takeW (i := 29) (oi := { dst := some 40, op := Op.fieldAddr 37 (Operand.tmp 6) 2, type := 0, pos := "pattern.go:52", after := #[{ on := 26, ground := Ground.guard }], guard := some (26, true) }) (v := ?va97) rfl (by kernel_rfl) (by kernel_rfl) (by kernel_rfl) rfl (fun _ _ _ h => h) (Or.inl ⟨by rfl, ?ya97⟩) (fun _ => by assumption) ?ra97
    case ya97 => (intro w _; go_simp; first | done | (with_reducible rfl))
    try simp only [Act.put, List.setIfInBounds_toArray, List.set_cons_zero, List.set_cons_succ]
    refine takeL (i := 28) (oi := { dst := some 39, op := Op.load 3 (Operand.tmp 38), type := 3, pos := "pattern.go:52", after := #[{ on := 27, ground := Ground.data }, { on := 26, ground := Ground.guard }], guard := some (26, true) }) (v := ?va98) rfl (by kernel_rfl) (by kernel_rfl) (by kernel_rfl) (by kernel_rfl) rfl (by kernel_rfl) (by kernel_rfl) (fun _ _ _ h => h) (Or.inl ⟨by rfl, ?ya98⟩) (by assumption) ?ra98
    case ya98 => (intro w hSw; (try dsimp only at hSw); go_simp; first | done | (with_reducible rfl))
    try simp only [Act.put, List.setIfInBounds_toArray, List.set_cons_zero, List.set_cons_succ]
    refine takeL (i := 30) (oi := { dst := some 41, op := Op.load 3 (Operand.tmp 40), type := 3, pos := "pattern.go:52", after := #[{ on := 29, ground := Ground.data }, { on := 26, ground := Ground.guard }], guard := some (26, true) }) (v := ?va99) rfl (by kernel_rfl) (by kernel_rfl) (by kernel_rfl) (by kernel_rfl) rfl (by kernel_rfl) (by kernel_rfl) (fun _ _ _ h => h) (Or.inl ⟨by rfl, ?ya99⟩) (by assumption) ?ra99
    case ya99 => (intro w hSw; (try dsimp only at hSw); go_simp; first | done | (with_reducible rfl))
    try simp only [Act.put, List.setIfInBounds_toArray, List.set_cons_zero, List.set_cons_succ]
    refine takeW (i := 31) (oi := { dst := some 42, op := Op.binOp BinOp.neq 3 (Operand.tmp 39) (Operand.tmp 41) 3, type := 4, pos := "pattern.go:52", after := #[{ on := 28, ground := Ground.data }, { on := 30, ground := Ground.data }, { on := 26, ground := Ground.guard }], guard := some (26, true) }) (v := ?va100) rfl (by kernel_rfl) (by kernel_rfl) (by kernel_rfl) rfl (fun _ _ _ h => h) (Or.inl ⟨by rfl, ?ya100⟩) (fun _ => by assumption) ?ra100
    case ya100 => (intro w _; go_simp; first | done | (with_reducible rfl))
    try simp only [Act.put, List.setIfInBounds_toArray, List.set_cons_zero, List.set_cons_succ]
    refine takeW (i := 32) (oi := { dst := some 43, op := Op.pick (Operand.tmp 37) (Operand.tmp 42) (Operand.const (Value.bool false)), type := 4, pos := "pattern.go:52", after := #[{ on := 26, ground := Ground.data }, { on := 31, ground := Ground.data }, { on := 22, ground := Ground.guard }], guard := some (22, false) }) (v := ?va101) rfl (by kernel_rfl) (by kernel_rfl) (by kernel_rfl) rfl (fun _ _ _ h => h) (Or.inl ⟨by rfl, ?ya101⟩) (fun _ => by assumption) ?ra101
    case ya101 => (intro w _; go_simp; first | done | (with_reducible rfl))
    try simp only [Act.put, List.setIfInBounds_toArray, List.set_cons_zero, List.set_cons_succ]
    refine takeW (i := 33) (oi := { dst := some 44, op := Op.pick (Operand.tmp 33) (Operand.const (Value.bool true)) (Operand.tmp 43), type := 4, pos := "pattern.go:52", after := #[{ on := 22, ground := Ground.data }, { on := 32, ground := Ground.data }], guard := none }) (v := ?va102) rfl (by kernel_rfl) (by kernel_rfl) (by kernel_rfl) rfl (fun _ _ _ h => h) (Or.inl ⟨by rfl, ?ya102⟩) (fun _ => by assumption) ?ra102
    case ya102 => (intro w _; go_simp; first | done | (with_reducible rfl))
    try simp only [Act.put, List.setIfInBounds_toArray, List.set_cons_zero, List.set_cons_succ]
    refine doneL (by kernel_rfl) ?_ _
    refine NoPanic.normal ?_
    have HBd := Lib.hid (below_drew HB.out)
    have hz0d : w.heap.size + 1 + 1 < w3.drew.heap.size := hz0
    have r1 : w3.drew.cell? ⟨w.heap.size, 1, none⟩ = some (.int .i64 R.width) := r1
    have r2 : w3.drew.cell? ⟨w.heap.size, 2, none⟩ = some (.int .i64 R.height) := r2
    have x0 : w3.drew.cell? ⟨w.heap.size + 1, 0, none⟩ = some (.int .i64 x.width) := x0
    have x1 : w3.drew.cell? ⟨w.heap.size + 1, 1, none⟩ = some (.int .i64 x.height) := x1
    have x2 : w3.drew.cell? ⟨w.heap.size + 1, 2, none⟩ = some (.slice ax x.cells.length cx) := x2
    have x3 : w3.drew.cell? ⟨w.heap.size + 1, 3, none⟩ = some (.int .i64 x.turn) := x3
    have p0 : w3.drew.cell? ⟨w.heap.size + 1 + 1, 0, none⟩ = some (.slice ac p.cells.length cc) := p0
    have p3 : w3.drew.cell? ⟨w.heap.size + 1 + 1, 3, none⟩ = some (.int .i64 p.turn) := p3
    clear HB hz0
    generalize w3.drew = w4 at *
    go_wp2_with fail
    go_loopw [48] (fun i wr => ∃ k : Nat, k ≤ x.cells.length ∧ i = .int .i64 k ∧ Hid ((List.range x.cells.length).all (fun i => fitsZ (x.cells.getD i 0) (p.cells.getD (s + (i : Int) / x.width * R.width + (i : Int) % x.width).toNat 0)) = ((List.range x.cells.length).drop k).all (fun i => fitsZ (x.cells.getD i 0) (p.cells.getD (s + (i : Int) / x.width * R.width + (i : Int) % x.width).toNat 0))) ∧ Hid (Below w4.heap.size w4 wr)) (fun i _ => x.cells.length - (intOf i).toNat)
    case atStart => exact ⟨0, Nat.zero_le _, rfl, Lib.hid rfl, Lib.hid (Below.refl _ _)⟩
    case round =>
      obtain ⟨k, hk, rfl, HK, HBr⟩ := hrel
      have r1r := (HBr.out.cell (p := ⟨w.heap.size, 1, none⟩) (by show w.heap.size < w4.heap.size; omega)).trans r1
      have r2r := (HBr.out.cell (p := ⟨w.heap.size, 2, none⟩) (by show w.heap.size < w4.heap.size; omega)).trans r2
      have x0r := (HBr.out.cell (p := ⟨w.heap.size + 1, 0, none⟩) (by show w.heap.size + 1 < w4.heap.size; omega)).trans x0
      have x1r := (HBr.out.cell (p := ⟨w.heap.size + 1, 1, none⟩) (by show w.heap.size + 1 < w4.heap.size; omega)).trans x1
      have x2r := (HBr.out.cell (p := ⟨w.heap.size + 1, 2, none⟩) (by show w.heap.size + 1 < w4.heap.size; omega)).trans x2
      have x3r := (HBr.out.cell (p := ⟨w.heap.size + 1, 3, none⟩) (by show w.heap.size + 1 < w4.heap.size; omega)).trans x3
      have p0r := (HBr.out.cell (p := ⟨w.heap.size + 1 + 1, 0, none⟩) (by show w.heap.size + 1 + 1 < w4.heap.size; omega)).trans p0
      have p3r := (HBr.out.cell (p := ⟨w.heap.size + 1 + 1, 3, none⟩) (by show w.heap.size + 1 + 1 < w4.heap.size; omega)).trans p3
      have HBw : Hid (Below w.heap.size w wr) := Lib.hid (HBd.out.trans (HBr.out.mono HBd.out.size))
      by_cases hlt : k < x.cells.length
      · have HS := Lib.hid (all_from (fun i => fitsZ (x.cells.getD i 0) (p.cells.getD (s + (i : Int) / x.width * R.width + (i : Int) % x.width).toNat 0)) x.cells.length k hlt)
        obtain ⟨f1, f2, f3, f4, f5, f6, f7, f8⟩ := fit_idx HF.out (by omega) (by omega) k hlt
        obtain ⟨gx, ox, cx', hxe, _, _, hgx, hxc⟩ := (HX.out.below HBw.out (Nat.le_refl _)).some (by omega)
        simp only [Value.slice.injEq] at hxe
        obtain ⟨rfl, _, rfl⟩ := hxe
        obtain ⟨gc, oc, cc', hce, _, _, hgc, hcc⟩ := (HP.out.1.below HBw.out (Nat.le_refl _)).some (by omega)
        simp only [Value.slice.injEq] at hce
        obtain ⟨rfl, _, rfl⟩ := hce
        have dk := hxc k hlt
        have dc := hcc (s + (k : Int) / x.width * R.width + (k : Int) % x.width).toNat (by omega)
        have hcb := HF.out.pc (p.cells.getD (s + (k : Int) / x.width * R.width + (k : Int) % x.width).toNat 0) (by rw [List.getD_eq_getElem?_getD, List.getElem?_eq_getElem (by omega)]; exact List.getElem_mem _)
        generalize hz : x.cells.getD k 0 = z at *
        generalize hcz : p.cells.getD (s + (k : Int) / x.width * R.width + (k : Int) % x.width).toNat 0 = c at *
        have HSz : Hid (((List.range x.cells.length).drop k).all (fun i => fitsZ (x.cells.getD i 0) (p.cells.getD (s + (i : Int) / x.width * R.width + (i : Int) % x.width).toNat 0)) = (fitsZ z c && ((List.range x.cells.length).drop (k + 1)).all (fun i => fitsZ (x.cells.getD i 0) (p.cells.getD (s + (i : Int) / x.width * R.width + (i : Int) % x.width).toNat 0)))) := Lib.hid (by rw [HS.out])
        have k0 : (0 : Int) ≤ (k : Int) := by omega
        have k1 : (k : Int) < (x.cells.length : Int) := by omega
        have n1 : (k : Int).tdiv x.width = (k : Int) / x.width := Int.tdiv_eq_ediv_of_nonneg k0
        have n2 : (k : Int).tmod x.width = (k : Int) % x.width := Int.tmod_eq_emod_of_nonneg k0
        have m1 : IntKind.i64.wrap ((k : Int) / x.width) = (k : Int) / x.width := IntWalk.i64_in _ (by omega)
        have m2 : IntKind.i64.wrap ((k : Int) / x.width * R.width) = (k : Int) / x.width * R.width := IntWalk.i64_in _ (by omega)
        have m3 : IntKind.i64.wrap (s + (k : Int) / x.width * R.width) = s + (k : Int) / x.width * R.width := IntWalk.i64_in _ (by omega)
        have m4 : IntKind.i64.wrap ((k : Int) % x.width) = (k : Int) % x.width := IntWalk.i64_in _ (by omega)
        have m5 : IntKind.i64.wrap (s + (k : Int) / x.width * R.width + (k : Int) % x.width) = s + (k : Int) / x.width * R.width + (k : Int) % x.width := IntWalk.i64_in _ (by omega)
        have xw0 : ¬ x.width = 0 := by omega
        clear hxc hcc hz hcz HS
        clear r1 r2 x0 x1 x2 x3 p0 p3
        have r1 := r1r
        have r2 := r2r
        have x0 := x0r
        have x1 := x1r
        have x2 := x2r
        have x3 := x3r
        have p0 := p0r
        have p3 := p3r
        clear r1r r2r x0r x1r x2r x3r p0r p3r
        cases hf : fitsZ z c
        · go_wp2_with fail
          refine wp_region_noPanic ?_
          refine beginL (S := (fun w' => w'.cell? ⟨w.heap.size, 1, none⟩ = some (.int .i64 R.width) ∧ w'.cell? ⟨w.heap.size, 2, none⟩ = some (.int .i64 R.height) ∧ w'.cell? ⟨w.heap.size + 1, 0, none⟩ = some (.int .i64 x.width) ∧ w'.cell? ⟨w.heap.size + 1, 1, none⟩ = some (.int .i64 x.height) ∧ w'.cell? ⟨w.heap.size + 1, 2, none⟩ = some (.slice (some ⟨gx, ox, none⟩) x.cells.length cx) ∧ w'.cell? ⟨w.heap.size + 1, 3, none⟩ = some (.int .i64 x.turn) ∧ w'.cell? ⟨w.heap.size + 1 + 1, 0, none⟩ = some (.slice (some ⟨gc, oc, none⟩) p.cells.length cc) ∧ w'.cell? ⟨w.heap.size + 1 + 1, 3, none⟩ = some (.int .i64 p.turn) ∧ w'.cell? ⟨gc, oc + (s + (k : Int) / x.width * R.width + (k : Int) % x.width).toNat, none⟩ = some (.int .i64 c))) (L := []) (by kernel_rfl) ⟨r1, r2, x0, x1, x2, x3, p0, p3, dc⟩ (fun hHeld => ?_)
          refine takeW (i := 0) (oi := { dst := some 53, op := Op.move (Operand.tmp 10), type := 3, pos := "pattern.go:56", after := #[], guard := none }) (v := ?va103) rfl (by kernel_rfl) (by kernel_rfl) (by kernel_rfl) rfl (fun _ _ _ h => h) (Or.inl ⟨by rfl, ?ya103⟩) (fun _ => by assumption) ?ra103
          case ya103 => (intro w _; go_simp; first | done | (with_reducible rfl))
          try simp only [Act.put, List.setIfInBounds_toArray, List.set_cons_zero, List.set_cons_succ]
          refine takeW (i := 1) (oi := { dst := some 54, op := Op.fieldAddr 37 (Operand.tmp 6) 0, type := 0, pos := "pattern.go:56", after := #[], guard := none }) (v := ?va104) rfl (by kernel_rfl) (by kernel_rfl) (by kernel_rfl) rfl (fun _ _ _ h => h) (Or.inl ⟨by rfl, ?ya104⟩) (fun _ => by assumption) ?ra104
          case ya104 => (intro w _; go_simp; first | done | (with_reducible rfl))
          try simp only [Act.put, List.setIfInBounds_toArray, List.set_cons_zero, List.set_cons_succ]
          refine takeW (i := 3) (oi := { dst := some 56, op := Op.move (Operand.tmp 3), type := 3, pos := "pattern.go:56", after := #[], guard := none }) (v := ?va105) rfl (by kernel_rfl) (by kernel_rfl) (by kernel_rfl) rfl (fun _ _ _ h => h) (Or.inl ⟨by rfl, ?ya105⟩) (fun _ => by assumption) ?ra105
          case ya105 => (intro w _; go_simp; first | done | (with_reducible rfl))
          try simp only [Act.put, List.setIfInBounds_toArray, List.set_cons_zero, List.set_cons_succ]
          refine takeW (i := 4) (oi := { dst := some 57, op := Op.move (Operand.tmp 9), type := 3, pos := "pattern.go:56", after := #[], guard := none }) (v := ?va106) rfl (by kernel_rfl) (by kernel_rfl) (by kernel_rfl) rfl (fun _ _ _ h => h) (Or.inl ⟨by rfl, ?ya106⟩) (fun _ => by assumption) ?ra106
          case ya106 => (intro w _; go_simp; first | done | (with_reducible rfl))
          try simp only [Act.put, List.setIfInBounds_toArray, List.set_cons_zero, List.set_cons_succ]
          refine takeW (i := 5) (oi := { dst := some 58, op := Op.fieldAddr 78 (Operand.tmp 5) 0, type := 0, pos := "pattern.go:56", after := #[], guard := none }) (v := ?va107) rfl (by kernel_rfl) (by kernel_rfl) (by kernel_rfl) rfl (fun _ _ _ h => h) (Or.inl ⟨by rfl, ?ya107⟩) (fun _ => by assumption) ?ra107
          case ya107 => (intro w _; go_simp; first | done | (with_reducible rfl))
          try simp only [Act.put, List.setIfInBounds_toArray, List.set_cons_zero, List.set_cons_succ]
          refine takeW (i := 8) (oi := { dst := some 61, op := Op.fieldAddr 26 (Operand.tmp 4) 1, type := 0, pos := "pattern.go:56", after := #[], guard := none }) (v := ?va108) rfl (by kernel_rfl) (by kernel_rfl) (by kernel_rfl) rfl (fun _ _ _ h => h) (Or.inl ⟨by rfl, ?ya108⟩) (fun _ => by assumption) ?ra108
          case ya108 => (intro w _; go_simp; first | done | (with_reducible rfl))
          try simp only [Act.put, List.setIfInBounds_toArray, List.set_cons_zero, List.set_cons_succ]
          refine takeW (i := 12) (oi := { dst := some 65, op := Op.move (Operand.tmp 9), type := 3, pos := "pattern.go:56", after := #[], guard := none }) (v := ?va109) rfl (by kernel_rfl) (by kernel_rfl) (by kernel_rfl) rfl (fun _ _ _ h => h) (Or.inl ⟨by rfl, ?ya109⟩) (fun _ => by assumption) ?ra109
          case ya109 => (intro w _; go_simp; first | done | (with_reducible rfl))
          try simp only [Act.put, List.setIfInBounds_toArray, List.set_cons_zero, List.set_cons_succ]
          refine takeW (i := 13) (oi := { dst := some 66, op := Op.fieldAddr 78 (Operand.tmp 5) 0, type := 0, pos := "pattern.go:56", after := #[], guard := none }) (v := ?va110) rfl (by kernel_rfl) (by kernel_rfl) (by kernel_rfl) rfl (fun _ _ _ h => h) (Or.inl ⟨by rfl, ?ya110⟩) (fun _ => by assumption) ?ra110
          case ya110 => (intro w _; go_simp; first | done | (with_reducible rfl))
          try simp only [Act.put, List.setIfInBounds_toArray, List.set_cons_zero, List.set_cons_succ]
          refine takeL (i := 2) (oi := { dst := some 55, op := Op.load 23 (Operand.tmp 54), type := 23, pos := "pattern.go:56", after := #[{ on := 1, ground := Ground.data }], guard := none }) (v := ?va111) rfl (by kernel_rfl) (by kernel_rfl) (by kernel_rfl) (by kernel_rfl) rfl (by kernel_rfl) (by kernel_rfl) (fun _ _ _ h => h) (Or.inl ⟨by rfl, ?ya111⟩) (by assumption) ?ra111
          case ya111 => (intro w hSw; (try dsimp only at hSw); go_simp; first | done | (with_reducible rfl))
          try simp only [Act.put, List.setIfInBounds_toArray, List.set_cons_zero, List.set_cons_succ]
          refine takeL (i := 6) (oi := { dst := some 59, op := Op.load 3 (Operand.tmp 58), type := 3, pos := "pattern.go:56", after := #[{ on := 5, ground := Ground.data }], guard := none }) (v := ?va112) rfl (by kernel_rfl) (by kernel_rfl) (by kernel_rfl) (by kernel_rfl) rfl (by kernel_rfl) (by kernel_rfl) (fun _ _ _ h => h) (Or.inl ⟨by rfl, ?ya112⟩) (by assumption) ?ra112
          case ya112 => (intro w hSw; (try dsimp only at hSw); go_simp; first | done | (with_reducible rfl))
          try simp only [Act.put, List.setIfInBounds_toArray, List.set_cons_zero, List.set_cons_succ]
          refine takeL (i := 9) (oi := { dst := some 62, op := Op.load 3 (Operand.tmp 61), type := 3, pos := "pattern.go:56", after := #[{ on := 8, ground := Ground.data }], guard := none }) (v := ?va113) rfl (by kernel_rfl) (by kernel_rfl) (by kernel_rfl) (by kernel_rfl) rfl (by kernel_rfl) (by kernel_rfl) (fun _ _ _ h => h) (Or.inl ⟨by rfl, ?ya113⟩) (by assumption) ?ra113
          case ya113 => (intro w hSw; (try dsimp only at hSw); go_simp; first | done | (with_reducible rfl))
          try simp only [Act.put, List.setIfInBounds_toArray, List.set_cons_zero, List.set_cons_succ]
          refine takeL (i := 14) (oi := { dst := some 67, op := Op.load 3 (Operand.tmp 66), type := 3, pos := "pattern.go:56", after := #[{ on := 13, ground := Ground.data }], guard := none }) (v := ?va114) rfl (by kernel_rfl) (by kernel_rfl) (by kernel_rfl) (by kernel_rfl) rfl (by kernel_rfl) (by kernel_rfl) (fun _ _ _ h => h) (Or.inl ⟨by rfl, ?ya114⟩) (by assumption) ?ra114
          case ya114 => (intro w hSw; (try dsimp only at hSw); go_simp; first | done | (with_reducible rfl))
          try simp only [Act.put, List.setIfInBounds_toArray, List.set_cons_zero, List.set_cons_succ]
          refine takeW (i := 7) (oi := { dst := some 60, op := Op.binOp BinOp.quo 3 (Operand.tmp 57) (Operand.tmp 59) 3, type := 3, pos := "pattern.go:56", after := #[{ on := 4, ground := Ground.data }, { on := 6, ground := Ground.data }], guard := none }) (v := ?va115) rfl (by kernel_rfl) (by kernel_rfl) (by kernel_rfl) rfl (fun _ _ _ h => h) (Or.inl ⟨by rfl, ?ya115⟩) (fun _ => by assumption) ?ra115
          case ya115 => (intro w _; go_simp; first | done | (with_reducible rfl))
          try simp only [Act.put, List.setIfInBounds_toArray, List.set_cons_zero, List.set_cons_succ]
          refine takeW (i := 15) (oi := { dst := some 68, op := Op.binOp BinOp.rem 3 (Operand.tmp 65) (Operand.tmp 67) 3, type := 3, pos := "pattern.go:56", after := #[{ on := 12, ground := Ground.data }, { on := 14, ground := Ground.data }], guard := none }) (v := ?va116) rfl (by kernel_rfl) (by kernel_rfl) (by kernel_rfl) rfl (fun _ _ _ h => h) (Or.inl ⟨by rfl, ?ya116⟩) (fun _ => by assumption) ?ra116
          case ya116 => (intro w _; go_simp; first | done | (with_reducible rfl))
          try simp only [Act.put, List.setIfInBounds_toArray, List.set_cons_zero, List.set_cons_succ]
          refine takeW (i := 10) (oi := { dst := some 63, op := Op.binOp BinOp.mul 3 (Operand.tmp 60) (Operand.tmp 62) 3, type := 3, pos := "pattern.go:56", after := #[{ on := 7, ground := Ground.data }, { on := 9, ground := Ground.data }], guard := none }) (v := ?va117) rfl (by kernel_rfl) (by kernel_rfl) (by kernel_rfl) rfl (fun _ _ _ h => h) (Or.inl ⟨by rfl, ?ya117⟩) (fun _ => by assumption) ?ra117
          case ya117 => (intro w _; go_simp; first | done | (with_reducible rfl))
          try simp only [Act.put, List.setIfInBounds_toArray, List.set_cons_zero, List.set_cons_succ]
          refine takeW (i := 11) (oi := { dst := some 64, op := Op.binOp BinOp.add 3 (Operand.tmp 56) (Operand.tmp 63) 3, type := 3, pos := "pattern.go:56", after := #[{ on := 3, ground := Ground.data }, { on := 10, ground := Ground.data }], guard := none }) (v := ?va118) rfl (by kernel_rfl) (by kernel_rfl) (by kernel_rfl) rfl (fun _ _ _ h => h) (Or.inl ⟨by rfl, ?ya118⟩) (fun _ => by assumption) ?ra118
          case ya118 => (intro w _; go_simp; first | done | (with_reducible rfl))
          try simp only [Act.put, List.setIfInBounds_toArray, List.set_cons_zero, List.set_cons_succ]
          refine takeW (i := 16) (oi := { dst := some 69, op := Op.binOp BinOp.add 3 (Operand.tmp 64) (Operand.tmp 68) 3, type := 3, pos := "pattern.go:56", after := #[{ on := 11, ground := Ground.data }, { on := 15, ground := Ground.data }], guard := none }) (v := ?va119) rfl (by kernel_rfl) (by kernel_rfl) (by kernel_rfl) rfl (fun _ _ _ h => h) (Or.inl ⟨by rfl, ?ya119⟩) (fun _ => by assumption) ?ra119
          case ya119 => (intro w _; go_simp; first | done | (with_reducible rfl))
          try simp only [Act.put, List.setIfInBounds_toArray, List.set_cons_zero, List.set_cons_succ]
          refine takeW (i := 17) (oi := { dst := some 70, op := Op.indexAddr 23 (Operand.tmp 55) (Operand.tmp 69), type := 0, pos := "pattern.go:56", after := #[{ on := 2, ground := Ground.data }, { on := 16, ground := Ground.data }], guard := none }) (v := ?va120) rfl (by kernel_rfl) (by kernel_rfl) (by kernel_rfl) rfl (fun _ _ _ h => h) (Or.inl ⟨by rfl, ?ya120⟩) (fun _ => by assumption) ?ra120
          case ya120 => (intro w _; go_simp; first | done | (with_reducible rfl))
          try simp only [Act.put, List.setIfInBounds_toArray, List.set_cons_zero, List.set_cons_succ]
          refine takeL (i := 18) (oi := { dst := some 71, op := Op.load 3 (Operand.tmp 70), type := 3, pos := "pattern.go:56", after := #[{ on := 17, ground := Ground.data }], guard := none }) (v := ?va121) rfl (by kernel_rfl) (by kernel_rfl) (by kernel_rfl) (by kernel_rfl) rfl (by kernel_rfl) (by kernel_rfl) (fun _ _ _ h => h) (Or.inl ⟨by rfl, ?ya121⟩) (by assumption) ?ra121
          case ya121 => (intro w hSw; (try dsimp only at hSw); go_simp; first | done | (with_reducible rfl))
          try simp only [Act.put, List.setIfInBounds_toArray, List.set_cons_zero, List.set_cons_succ]
          refine readyL (rs := [19]) (by kernel_rfl) (by simp) ?_
          refine (AllReadyL.cons (o := { dst := some 72, op := Op.call { callee := Callee.value (Operand.func 170), args := #[Operand.tmp 53, Operand.tmp 71], argTypes := #[3, 3] }, type := 4, pos := "pattern.go:56", after := #[{ on := 0, ground := Ground.data }, { on := 18, ground := Ground.data }], guard := none }) rfl (fun K hK => ?_) AllReadyL.nil)
          go_simp
          refine (fits_any _ _ _ hcb.1 hcb.2).mono ?_
          rintro e w' ⟨rfl, rfl⟩
          refine hK.out _ _ ⟨r1, r2, x0, x1, x2, x3, p0, p3, dc⟩ (fun hHeld => ?_)
          clear hK K
          try simp only [Act.put, List.setIfInBounds_toArray, List.set_cons_zero, List.set_cons_succ]
          refine takeW (i := 20) (oi := { dst := some 73, op := Op.unOp UnOp.not 4 (Operand.tmp 72), type := 4, pos := "pattern.go:56", after := #[{ on := 19, ground := Ground.data }], guard := none }) (v := ?va122) rfl (by kernel_rfl) (by kernel_rfl) (by kernel_rfl) rfl (fun _ _ _ h => h) (Or.inl ⟨by rfl, ?ya122⟩) (fun _ => by assumption) ?ra122
          case ya122 => (intro w _; go_simp; first | done | (with_reducible rfl))
          try simp only [Act.put, List.setIfInBounds_toArray, List.set_cons_zero, List.set_cons_succ]
          refine doneL (by kernel_rfl) ?_ _
          refine NoPanic.normal ?_
          rw [hf]
          go_wp2_with fail
          go_ret
          exact ⟨by rw [HE.out, HK.out, HSz.out, hf]; rfl, below_drew HBw.out⟩
        · go_wp2_with fail
          refine wp_region_noPanic ?_
          refine beginL (S := (fun w' => w'.cell? ⟨w.heap.size, 1, none⟩ = some (.int .i64 R.width) ∧ w'.cell? ⟨w.heap.size, 2, none⟩ = some (.int .i64 R.height) ∧ w'.cell? ⟨w.heap.size + 1, 0, none⟩ = some (.int .i64 x.width) ∧ w'.cell? ⟨w.heap.size + 1, 1, none⟩ = some (.int .i64 x.height) ∧ w'.cell? ⟨w.heap.size + 1, 2, none⟩ = some (.slice (some ⟨gx, ox, none⟩) x.cells.length cx) ∧ w'.cell? ⟨w.heap.size + 1, 3, none⟩ = some (.int .i64 x.turn) ∧ w'.cell? ⟨w.heap.size + 1 + 1, 0, none⟩ = some (.slice (some ⟨gc, oc, none⟩) p.cells.length cc) ∧ w'.cell? ⟨w.heap.size + 1 + 1, 3, none⟩ = some (.int .i64 p.turn) ∧ w'.cell? ⟨gc, oc + (s + (k : Int) / x.width * R.width + (k : Int) % x.width).toNat, none⟩ = some (.int .i64 c))) (L := []) (by kernel_rfl) ⟨r1, r2, x0, x1, x2, x3, p0, p3, dc⟩ (fun hHeld => ?_)
          refine takeW (i := 0) (oi := { dst := some 53, op := Op.move (Operand.tmp 10), type := 3, pos := "pattern.go:56", after := #[], guard := none }) (v := ?va123) rfl (by kernel_rfl) (by kernel_rfl) (by kernel_rfl) rfl (fun _ _ _ h => h) (Or.inl ⟨by rfl, ?ya123⟩) (fun _ => by assumption) ?ra123
          case ya123 => (intro w _; go_simp; first | done | (with_reducible rfl))
          try simp only [Act.put, List.setIfInBounds_toArray, List.set_cons_zero, List.set_cons_succ]
          refine takeW (i := 1) (oi := { dst := some 54, op := Op.fieldAddr 37 (Operand.tmp 6) 0, type := 0, pos := "pattern.go:56", after := #[], guard := none }) (v := ?va124) rfl (by kernel_rfl) (by kernel_rfl) (by kernel_rfl) rfl (fun _ _ _ h => h) (Or.inl ⟨by rfl, ?ya124⟩) (fun _ => by assumption) ?ra124
          case ya124 => (intro w _; go_simp; first | done | (with_reducible rfl))
          try simp only [Act.put, List.setIfInBounds_toArray, List.set_cons_zero, List.set_cons_succ]
          refine takeW (i := 3) (oi := { dst := some 56, op := Op.move (Operand.tmp 3), type := 3, pos := "pattern.go:56", after := #[], guard := none }) (v := ?va125) rfl (by kernel_rfl) (by kernel_rfl) (by kernel_rfl) rfl (fun _ _ _ h => h) (Or.inl ⟨by rfl, ?ya125⟩) (fun _ => by assumption) ?ra125
          case ya125 => (intro w _; go_simp; first | done | (with_reducible rfl))
          try simp only [Act.put, List.setIfInBounds_toArray, List.set_cons_zero, List.set_cons_succ]
          refine takeW (i := 4) (oi := { dst := some 57, op := Op.move (Operand.tmp 9), type := 3, pos := "pattern.go:56", after := #[], guard := none }) (v := ?va126) rfl (by kernel_rfl) (by kernel_rfl) (by kernel_rfl) rfl (fun _ _ _ h => h) (Or.inl ⟨by rfl, ?ya126⟩) (fun _ => by assumption) ?ra126
          case ya126 => (intro w _; go_simp; first | done | (with_reducible rfl))
          try simp only [Act.put, List.setIfInBounds_toArray, List.set_cons_zero, List.set_cons_succ]
          refine takeW (i := 5) (oi := { dst := some 58, op := Op.fieldAddr 78 (Operand.tmp 5) 0, type := 0, pos := "pattern.go:56", after := #[], guard := none }) (v := ?va127) rfl (by kernel_rfl) (by kernel_rfl) (by kernel_rfl) rfl (fun _ _ _ h => h) (Or.inl ⟨by rfl, ?ya127⟩) (fun _ => by assumption) ?ra127
          case ya127 => (intro w _; go_simp; first | done | (with_reducible rfl))
          try simp only [Act.put, List.setIfInBounds_toArray, List.set_cons_zero, List.set_cons_succ]
          refine takeW (i := 8) (oi := { dst := some 61, op := Op.fieldAddr 26 (Operand.tmp 4) 1, type := 0, pos := "pattern.go:56", after := #[], guard := none }) (v := ?va128) rfl (by kernel_rfl) (by kernel_rfl) (by kernel_rfl) rfl (fun _ _ _ h => h) (Or.inl ⟨by rfl, ?ya128⟩) (fun _ => by assumption) ?ra128
          case ya128 => (intro w _; go_simp; first | done | (with_reducible rfl))
          try simp only [Act.put, List.setIfInBounds_toArray, List.set_cons_zero, List.set_cons_succ]
          refine takeW (i := 12) (oi := { dst := some 65, op := Op.move (Operand.tmp 9), type := 3, pos := "pattern.go:56", after := #[], guard := none }) (v := ?va129) rfl (by kernel_rfl) (by kernel_rfl) (by kernel_rfl) rfl (fun _ _ _ h => h) (Or.inl ⟨by rfl, ?ya129⟩) (fun _ => by assumption) ?ra129
          case ya129 => (intro w _; go_simp; first | done | (with_reducible rfl))
          try simp only [Act.put, List.setIfInBounds_toArray, List.set_cons_zero, List.set_cons_succ]
          refine takeW (i := 13) (oi := { dst := some 66, op := Op.fieldAddr 78 (Operand.tmp 5) 0, type := 0, pos := "pattern.go:56", after := #[], guard := none }) (v := ?va130) rfl (by kernel_rfl) (by kernel_rfl) (by kernel_rfl) rfl (fun _ _ _ h => h) (Or.inl ⟨by rfl, ?ya130⟩) (fun _ => by assumption) ?ra130
          case ya130 => (intro w _; go_simp; first | done | (with_reducible rfl))
          try simp only [Act.put, List.setIfInBounds_toArray, List.set_cons_zero, List.set_cons_succ]
          refine takeL (i := 2) (oi := { dst := some 55, op := Op.load 23 (Operand.tmp 54), type := 23, pos := "pattern.go:56", after := #[{ on := 1, ground := Ground.data }], guard := none }) (v := ?va131) rfl (by kernel_rfl) (by kernel_rfl) (by kernel_rfl) (by kernel_rfl) rfl (by kernel_rfl) (by kernel_rfl) (fun _ _ _ h => h) (Or.inl ⟨by rfl, ?ya131⟩) (by assumption) ?ra131
          case ya131 => (intro w hSw; (try dsimp only at hSw); go_simp; first | done | (with_reducible rfl))
          try simp only [Act.put, List.setIfInBounds_toArray, List.set_cons_zero, List.set_cons_succ]
          refine takeL (i := 6) (oi := { dst := some 59, op := Op.load 3 (Operand.tmp 58), type := 3, pos := "pattern.go:56", after := #[{ on := 5, ground := Ground.data }], guard := none }) (v := ?va132) rfl (by kernel_rfl) (by kernel_rfl) (by kernel_rfl) (by kernel_rfl) rfl (by kernel_rfl) (by kernel_rfl) (fun _ _ _ h => h) (Or.inl ⟨by rfl, ?ya132⟩) (by assumption) ?ra132
          case ya132 => (intro w hSw; (try dsimp only at hSw); go_simp; first | done | (with_reducible rfl))
          try simp only [Act.put, List.setIfInBounds_toArray, List.set_cons_zero, List.set_cons_succ]
          refine takeL (i := 9) (oi := { dst := some 62, op := Op.load 3 (Operand.tmp 61), type := 3, pos := "pattern.go:56", after := #[{ on := 8, ground := Ground.data }], guard := none }) (v := ?va133) rfl (by kernel_rfl) (by kernel_rfl) (by kernel_rfl) (by kernel_rfl) rfl (by kernel_rfl) (by kernel_rfl) (fun _ _ _ h => h) (Or.inl ⟨by rfl, ?ya133⟩) (by assumption) ?ra133
          case ya133 => (intro w hSw; (try dsimp only at hSw); go_simp; first | done | (with_reducible rfl))
          try simp only [Act.put, List.setIfInBounds_toArray, List.set_cons_zero, List.set_cons_succ]
          refine takeL (i := 14) (oi := { dst := some 67, op := Op.load 3 (Operand.tmp 66), type := 3, pos := "pattern.go:56", after := #[{ on := 13, ground := Ground.data }], guard := none }) (v := ?va134) rfl (by kernel_rfl) (by kernel_rfl) (by kernel_rfl) (by kernel_rfl) rfl (by kernel_rfl) (by kernel_rfl) (fun _ _ _ h => h) (Or.inl ⟨by rfl, ?ya134⟩) (by assumption) ?ra134
          case ya134 => (intro w hSw; (try dsimp only at hSw); go_simp; first | done | (with_reducible rfl))
          try simp only [Act.put, List.setIfInBounds_toArray, List.set_cons_zero, List.set_cons_succ]
          refine takeW (i := 7) (oi := { dst := some 60, op := Op.binOp BinOp.quo 3 (Operand.tmp 57) (Operand.tmp 59) 3, type := 3, pos := "pattern.go:56", after := #[{ on := 4, ground := Ground.data }, { on := 6, ground := Ground.data }], guard := none }) (v := ?va135) rfl (by kernel_rfl) (by kernel_rfl) (by kernel_rfl) rfl (fun _ _ _ h => h) (Or.inl ⟨by rfl, ?ya135⟩) (fun _ => by assumption) ?ra135
          case ya135 => (intro w _; go_simp; first | done | (with_reducible rfl))
          try simp only [Act.put, List.setIfInBounds_toArray, List.set_cons_zero, List.set_cons_succ]
          refine takeW (i := 15) (oi := { dst := some 68, op := Op.binOp BinOp.rem 3 (Operand.tmp 65) (Operand.tmp 67) 3, type := 3, pos := "pattern.go:56", after := #[{ on := 12, ground := Ground.data }, { on := 14, ground := Ground.data }], guard := none }) (v := ?va136) rfl (by kernel_rfl) (by kernel_rfl) (by kernel_rfl) rfl (fun _ _ _ h => h) (Or.inl ⟨by rfl, ?ya136⟩) (fun _ => by assumption) ?ra136
          case ya136 => (intro w _; go_simp; first | done | (with_reducible rfl))
          try simp only [Act.put, List.setIfInBounds_toArray, List.set_cons_zero, List.set_cons_succ]
          refine takeW (i := 10) (oi := { dst := some 63, op := Op.binOp BinOp.mul 3 (Operand.tmp 60) (Operand.tmp 62) 3, type := 3, pos := "pattern.go:56", after := #[{ on := 7, ground := Ground.data }, { on := 9, ground := Ground.data }], guard := none }) (v := ?va137) rfl (by kernel_rfl) (by kernel_rfl) (by kernel_rfl) rfl (fun _ _ _ h => h) (Or.inl ⟨by rfl, ?ya137⟩) (fun _ => by assumption) ?ra137
          case ya137 => (intro w _; go_simp; first | done | (with_reducible rfl))
          try simp only [Act.put, List.setIfInBounds_toArray, List.set_cons_zero, List.set_cons_succ]
          refine takeW (i := 11) (oi := { dst := some 64, op := Op.binOp BinOp.add 3 (Operand.tmp 56) (Operand.tmp 63) 3, type := 3, pos := "pattern.go:56", after := #[{ on := 3, ground := Ground.data }, { on := 10, ground := Ground.data }], guard := none }) (v := ?va138) rfl (by kernel_rfl) (by kernel_rfl) (by kernel_rfl) rfl (fun _ _ _ h => h) (Or.inl ⟨by rfl, ?ya138⟩) (fun _ => by assumption) ?ra138
          case ya138 => (intro w _; go_simp; first | done | (with_reducible rfl))
          try simp only [Act.put, List.setIfInBounds_toArray, List.set_cons_zero, List.set_cons_succ]
          refine takeW (i := 16) (oi := { dst := some 69, op := Op.binOp BinOp.add 3 (Operand.tmp 64) (Operand.tmp 68) 3, type := 3, pos := "pattern.go:56", after := #[{ on := 11, ground := Ground.data }, { on := 15, ground := Ground.data }], guard := none }) (v := ?va139) rfl (by kernel_rfl) (by kernel_rfl) (by kernel_rfl) rfl (fun _ _ _ h => h) (Or.inl ⟨by rfl, ?ya139⟩) (fun _ => by assumption) ?ra139
          case ya139 => (intro w _; go_simp; first | done | (with_reducible rfl))
          try simp only [Act.put, List.setIfInBounds_toArray, List.set_cons_zero, List.set_cons_succ]
          refine takeW (i := 17) (oi := { dst := some 70, op := Op.indexAddr 23 (Operand.tmp 55) (Operand.tmp 69), type := 0, pos := "pattern.go:56", after := #[{ on := 2, ground := Ground.data }, { on := 16, ground := Ground.data }], guard := none }) (v := ?va140) rfl (by kernel_rfl) (by kernel_rfl) (by kernel_rfl) rfl (fun _ _ _ h => h) (Or.inl ⟨by rfl, ?ya140⟩) (fun _ => by assumption) ?ra140
          case ya140 => (intro w _; go_simp; first | done | (with_reducible rfl))
          try simp only [Act.put, List.setIfInBounds_toArray, List.set_cons_zero, List.set_cons_succ]
          refine takeL (i := 18) (oi := { dst := some 71, op := Op.load 3 (Operand.tmp 70), type := 3, pos := "pattern.go:56", after := #[{ on := 17, ground := Ground.data }], guard := none }) (v := ?va141) rfl (by kernel_rfl) (by kernel_rfl) (by kernel_rfl) (by kernel_rfl) rfl (by kernel_rfl) (by kernel_rfl) (fun _ _ _ h => h) (Or.inl ⟨by rfl, ?ya141⟩) (by assumption) ?ra141
          case ya141 => (intro w hSw; (try dsimp only at hSw); go_simp; first | done | (with_reducible rfl))
          try simp only [Act.put, List.setIfInBounds_toArray, List.set_cons_zero, List.set_cons_succ]
          refine readyL (rs := [19]) (by kernel_rfl) (by simp) ?_
          refine (AllReadyL.cons (o := { dst := some 72, op := Op.call { callee := Callee.value (Operand.func 170), args := #[Operand.tmp 53, Operand.tmp 71], argTypes := #[3, 3] }, type := 4, pos := "pattern.go:56", after := #[{ on := 0, ground := Ground.data }, { on := 18, ground := Ground.data }], guard := none }) rfl (fun K hK => ?_) AllReadyL.nil)
          go_simp
          refine (fits_any _ _ _ hcb.1 hcb.2).mono ?_
          rintro e w' ⟨rfl, rfl⟩
          refine hK.out _ _ ⟨r1, r2, x0, x1, x2, x3, p0, p3, dc⟩ (fun hHeld => ?_)
          clear hK K
          try simp only [Act.put, List.setIfInBounds_toArray, List.set_cons_zero, List.set_cons_succ]
          refine takeW (i := 20) (oi := { dst := some 73, op := Op.unOp UnOp.not 4 (Operand.tmp 72), type := 4, pos := "pattern.go:56", after := #[{ on := 19, ground := Ground.data }], guard := none }) (v := ?va142) rfl (by kernel_rfl) (by kernel_rfl) (by kernel_rfl) rfl (fun _ _ _ h => h) (Or.inl ⟨by rfl, ?ya142⟩) (fun _ => by assumption) ?ra142
          case ya142 => (intro w _; go_simp; first | done | (with_reducible rfl))
          try simp only [Act.put, List.setIfInBounds_toArray, List.set_cons_zero, List.set_cons_succ]
          refine doneL (by kernel_rfl) ?_ _
          refine NoPanic.normal ?_
          rw [hf]
          go_wp2_with fail
          go_roundw
          case rel => exact ⟨k + 1, by omega, by go_num, Lib.hid (by rw [HK.out, HSz.out, hf, Bool.true_and]), Lib.hid (below_drew HBr.out)⟩
          case measure => simp [intOf]; omega
      · obtain rfl : k = x.cells.length := by omega
        have HZ : Hid (atZ R x p s = true) := Lib.hid (by rw [HE.out, HK.out, List.drop_of_length_le (by simp)]; rfl)
        go_wp2_with fail
        go_ret
        exact ⟨by rw [HZ.out]; rfl, HBw.out⟩
  have t3' : decide (0 ≤ x.turn) = false := by simpa using t3
  have HE := Lib.hid (by have := HC.out; rw [if_neg (by rintro (h | h | ⟨h, _⟩) <;> first | exact t1 h | exact t2 h | exact t3 h)] at this; exact this)
  refine wp_region_noPanic ?_
  refine beginL (S := (fun w' => w'.cell? ⟨w.heap.size, 1, none⟩ = some (.int .i64 R.width) ∧ w'.cell? ⟨w.heap.size, 2, none⟩ = some (.int .i64 R.height) ∧ w'.cell? ⟨w.heap.size + 1, 0, none⟩ = some (.int .i64 x.width) ∧ w'.cell? ⟨w.heap.size + 1, 1, none⟩ = some (.int .i64 x.height) ∧ w'.cell? ⟨w.heap.size + 1, 2, none⟩ = some (.slice ax x.cells.length cx) ∧ w'.cell? ⟨w.heap.size + 1, 3, none⟩ = some (.int .i64 x.turn) ∧ w'.cell? ⟨w.heap.size + 1 + 1, 0, none⟩ = some (.slice ac p.cells.length cc) ∧ w'.cell? ⟨w.heap.size + 1 + 1, 3, none⟩ = some (.int .i64 p.turn))) (L := []) (by kernel_rfl) ⟨r1, r2, x0, x1, x2, x3, p0, p3⟩ (fun hHeld => ?_)
  refine takeW (i := 0) (oi := { dst := some 11, op := Op.move (Operand.tmp 3), type := 3, pos := "pattern.go:52", after := #[], guard := none }) (v := ?va143) rfl (by kernel_rfl) (by kernel_rfl) (by kernel_rfl) rfl (fun _ _ _ h => h) (Or.inl ⟨by rfl, ?ya143⟩) (fun _ => by assumption) ?ra143
  case ya143 => (intro w _; go_simp; first | done | (with_reducible rfl))
  try simp only [Act.put, List.setIfInBounds_toArray, List.set_cons_zero, List.set_cons_succ]
  refine takeW (i := 1) (oi := { dst := some 12, op := Op.fieldAddr 26 (Operand.tmp 4) 1, type := 0, pos := "pattern.go:52", after := #[], guard := none }) (v := ?va144) rfl (by kernel_rfl) (by kernel_rfl) (by kernel_rfl) rfl (fun _ _ _ h => h) (Or.inl ⟨by rfl, ?ya144⟩) (fun _ => by assumption) ?ra144
  case ya144 => (intro w _; go_simp; first | done | (with_reducible rfl))
  try simp only [Act.put, List.setIfInBounds_toArray, List.set_cons_zero, List.set_cons_succ]
  refine takeW (i := 4) (oi := { dst := some 15, op := Op.fieldAddr 78 (Operand.tmp 5) 0, type := 0, pos := "pattern.go:52", after := #[], guard := none }) (v := ?va145) rfl (by kernel_rfl) (by kernel_rfl) (by kernel_rfl) rfl (fun _ _ _ h => h) (Or.inl ⟨by rfl, ?ya145⟩) (fun _ => by assumption) ?ra145
  case ya145 => (intro w _; go_simp; first | done | (with_reducible rfl))
  try simp only [Act.put, List.setIfInBounds_toArray, List.set_cons_zero, List.set_cons_succ]
  refine takeW (i := 7) (oi := { dst := some 18, op := Op.fieldAddr 26 (Operand.tmp 4) 1, type := 0, pos := "pattern.go:52", after := #[], guard := none }) (v := ?va146) rfl (by kernel_rfl) (by kernel_rfl) (by kernel_rfl) rfl (fun _ _ _ h => h) (Or.inl ⟨by rfl, ?ya146⟩) (fun _ => by assumption) ?ra146
  case ya146 => (intro w _; go_simp; first | done | (with_reducible rfl))
  try simp only [Act.put, List.setIfInBounds_toArray, List.set_cons_zero, List.set_cons_succ]
  refine takeL (i := 2) (oi := { dst := some 13, op := Op.load 3 (Operand.tmp 12), type := 3, pos := "pattern.go:52", after := #[{ on := 1, ground := Ground.data }], guard := none }) (v := ?va147) rfl (by kernel_rfl) (by kernel_rfl) (by kernel_rfl) (by kernel_rfl) rfl (by kernel_rfl) (by kernel_rfl) (fun _ _ _ h => h) (Or.inl ⟨by rfl, ?ya147⟩) (by assumption) ?ra147
  case ya147 => (intro w hSw; (try dsimp only at hSw); go_simp; first | done | (with_reducible rfl))
  try simp only [Act.put, List.setIfInBounds_toArray, List.set_cons_zero, List.set_cons_succ]
  refine takeL (i := 5) (oi := { dst := some 16, op := Op.load 3 (Operand.tmp 15), type := 3, pos := "pattern.go:52", after := #[{ on := 4, ground := Ground.data }], guard := none }) (v := ?va148) rfl (by kernel_rfl) (by kernel_rfl) (by kernel_rfl) (by kernel_rfl) rfl (by kernel_rfl) (by kernel_rfl) (fun _ _ _ h => h) (Or.inl ⟨by rfl, ?ya148⟩) (by assumption) ?ra148
  case ya148 => (intro w hSw; (try dsimp only at hSw); go_simp; first | done | (with_reducible rfl))
  try simp only [Act.put, List.setIfInBounds_toArray, List.set_cons_zero, List.set_cons_succ]
  refine takeL (i := 8) (oi := { dst := some 19, op := Op.load 3 (Operand.tmp 18), type := 3, pos := "pattern.go:52", after := #[{ on := 7, ground := Ground.data }], guard := none }) (v := ?va149) rfl (by kernel_rfl) (by kernel_rfl) (by kernel_rfl) (by kernel_rfl) rfl (by kernel_rfl) (by kernel_rfl) (fun _ _ _ h => h) (Or.inl ⟨by rfl, ?ya149⟩) (by assumption) ?ra149
  case ya149 => (intro w hSw; (try dsimp only at hSw); go_simp; first | done | (with_reducible rfl))
  try simp only [Act.put, List.setIfInBounds_toArray, List.set_cons_zero, List.set_cons_succ]
  refine takeW (i := 3) (oi := { dst := some 14, op := Op.binOp BinOp.rem 3 (Operand.tmp 11) (Operand.tmp 13) 3, type := 3, pos := "pattern.go:52", after := #[{ on := 0, ground := Ground.data }, { on := 2, ground := Ground.data }], guard := none }) (v := ?va150) rfl (by kernel_rfl) (by kernel_rfl) (by kernel_rfl) rfl (fun _ _ _ h => h) (Or.inl ⟨by rfl, ?ya150⟩) (fun _ => by assumption) ?ra150
  case ya150 => (intro w _; go_simp; first | done | (with_reducible rfl))
  try simp only [Act.put, List.setIfInBounds_toArray, List.set_cons_zero, List.set_cons_succ]
  refine takeW (i := 6) (oi := { dst := some 17, op := Op.binOp BinOp.add 3 (Operand.tmp 14) (Operand.tmp 16) 3, type := 3, pos := "pattern.go:52", after := #[{ on := 3, ground := Ground.data }, { on := 5, ground := Ground.data }], guard := none }) (v := ?va151) rfl (by kernel_rfl) (by kernel_rfl) (by kernel_rfl) rfl (fun _ _ _ h => h) (Or.inl ⟨by rfl, ?ya151⟩) (fun _ => by assumption) ?ra151
  case ya151 => (intro w _; go_simp; first | done | (with_reducible rfl))
  try simp only [Act.put, List.setIfInBounds_toArray, List.set_cons_zero, List.set_cons_succ]
  refine takeW (i := 9) (oi := { dst := some 20, op := Op.binOp BinOp.gtr 3 (Operand.tmp 17) (Operand.tmp 19) 3, type := 4, pos := "pattern.go:52", after := #[{ on := 6, ground := Ground.data }, { on := 8, ground := Ground.data }], guard := none }) (v := ?va152) rfl (by kernel_rfl) (by kernel_rfl) (by kernel_rfl) rfl (fun _ _ _ h => h) (Or.inl ⟨by rfl, ?ya152⟩) (fun _ => by assumption) ?ra152
  case ya152 => (intro w _; go_simp; first | done | (with_reducible rfl))
  try simp only [Act.put, List.setIfInBounds_toArray, List.set_cons_zero, List.set_cons_succ]
  refine takeW (i := 10) (oi := { dst := some 21, op := Op.move (Operand.tmp 20), type := 4, pos := "pattern.go:52", after := #[{ on := 9, ground := Ground.data }], guard := none }) (v := ?va153) rfl (by kernel_rfl) (by kernel_rfl) (by kernel_rfl) rfl (fun _ _ _ h => h) (Or.inl ⟨by rfl, ?ya153⟩) (fun _ => by assumption) ?ra153
  case ya153 => (intro w _; go_simp; first | done | (with_reducible rfl))
  try simp only [Act.put, List.setIfInBounds_toArray, List.set_cons_zero, List.set_cons_succ]
  refine takeW (i := 11) (oi := { dst := some 22, op := Op.move (Operand.tmp 3), type := 3, pos := "pattern.go:52", after := #[{ on := 10, ground := Ground.guard }], guard := some (10, false) }) (v := ?va154) rfl (by kernel_rfl) (by kernel_rfl) (by kernel_rfl) rfl (fun _ _ _ h => h) (Or.inl ⟨by rfl, ?ya154⟩) (fun _ => by assumption) ?ra154
  case ya154 => (intro w _; go_simp; first | done | (with_reducible rfl))
  try simp only [Act.put, List.setIfInBounds_toArray, List.set_cons_zero, List.set_cons_succ]
  refine takeW (i := 12) (oi := { dst := some 23, op := Op.fieldAddr 26 (Operand.tmp 4) 1, type := 0, pos := "pattern.go:52", after := #[{ on := 10, ground := Ground.guard }], guard := some (10, false) }) (v := ?va155) rfl (by kernel_rfl) (by kernel_rfl) (by kernel_rfl) rfl (fun _ _ _ h => h) (Or.inl ⟨by rfl, ?ya155⟩) (fun _ => by assumption) ?ra155
  case ya155 => (intro w _; go_simp; first | done | (with_reducible rfl))
  try simp only [Act.put, List.setIfInBounds_toArray, List.set_cons_zero, List.set_cons_succ]
  refine takeW (i := 15) (oi := { dst := some 26, op := Op.fieldAddr 78 (Operand.tmp 5) 1, type := 0, pos := "pattern.go:52", after := #[{ on := 10, ground := Ground.guard }], guard := some (10, false) }) (v := ?va156) rfl (by kernel_rfl) (by kernel_rfl) (by kernel_rfl) rfl (fun _ _ _ h => h) (Or.inl ⟨by rfl, ?ya156⟩) (fun _ => by assumption) ?ra156
  case ya156 => (intro w _; go_simp; first | done | (with_reducible rfl))
  try simp only [Act.put, List.setIfInBounds_toArray, List.set_cons_zero, List.set_cons_succ]
  refine takeW (i := 18) (oi := { dst := some 29, op := Op.fieldAddr 26 (Operand.tmp 4) 2, type := 0, pos := "pattern.go:52", after := #[{ on := 10, ground := Ground.guard }], guard := some (10, false) }) (v := ?va157) rfl (by kernel_rfl) (by kernel_rfl) (by kernel_rfl) rfl (fun _ _ _ h => h) (Or.inl ⟨by rfl, ?ya157⟩) (fun _ => by assumption) ?ra157
  case ya157 => (intro w _; go_simp; first | done | (with_reducible rfl))
  try simp only [Act.put, List.setIfInBounds_toArray, List.set_cons_zero, List.set_cons_succ]
  refine takeL (i := 13) (oi := { dst := some 24, op := Op.load 3 (Operand.tmp 23), type := 3, pos := "pattern.go:52", after := #[{ on := 12, ground := Ground.data }, { on := 10, ground := Ground.guard }], guard := some (10, false) }) (v := ?va158) rfl (by kernel_rfl) (by kernel_rfl) (by kernel_rfl) (by kernel_rfl) rfl (by kernel_rfl) (by kernel_rfl) (fun _ _ _ h => h) (Or.inl ⟨by rfl, ?ya158⟩) (by assumption) ?ra158
  case ya158 => (intro w hSw; (try dsimp only at hSw); go_simp; first | done | (with_reducible rfl))
  try simp only [Act.put, List.setIfInBounds_toArray, List.set_cons_zero, List.set_cons_succ]
  refine takeL (i := 16) (oi := { dst := some 27, op := Op.load 3 (Operand.tmp 26), type := 3, pos := "pattern.go:52", after := #[{ on := 15, ground := Ground.data }, { on := 10, ground := Ground.guard }], guard := some (10, false) }) (v := ?va159) rfl (by kernel_rfl) (by kernel_rfl) (by kernel_rfl) (by kernel_rfl) rfl (by kernel_rfl) (by kernel_rfl) (fun _ _ _ h => h) (Or.inl ⟨by rfl, ?ya159⟩) (by assumption) ?ra159
  case ya159 => (intro w hSw; (try dsimp only at hSw); go_simp; first | done | (with_reducible rfl))
  try simp only [Act.put, List.setIfInBounds_toArray, List.set_cons_zero, List.set_cons_succ]
  refine takeL (i := 19) (oi := { dst := some 30, op := Op.load 3 (Operand.tmp 29), type := 3, pos := "pattern.go:52", after := #[{ on := 18, ground := Ground.data }, { on := 10, ground := Ground.guard }], guard := some (10, false) }) (v := ?va160) rfl (by kernel_rfl) (by kernel_rfl) (by kernel_rfl) (by kernel_rfl) rfl (by kernel_rfl) (by kernel_rfl) (fun _ _ _ h => h) (Or.inl ⟨by rfl, ?ya160⟩) (by assumption) ?ra160
  case ya160 => (intro w hSw; (try dsimp only at hSw); go_simp; first | done | (with_reducible rfl))
  try simp only [Act.put, List.setIfInBounds_toArray, List.set_cons_zero, List.set_cons_succ]
  refine takeW (i := 14) (oi := { dst := some 25, op := Op.binOp BinOp.quo 3 (Operand.tmp 22) (Operand.tmp 24) 3, type := 3, pos := "pattern.go:52", after := #[{ on := 11, ground := Ground.data }, { on := 13, ground := Ground.data }, { on := 10, ground := Ground.guard }], guard := some (10, false) }) (v := ?va161) rfl (by kernel_rfl) (by kernel_rfl) (by kernel_rfl) rfl (fun _ _ _ h => h) (Or.inl ⟨by rfl, ?ya161⟩) (fun _ => by assumption) ?ra161
  case ya161 => (intro w _; go_simp; first | done | (with_reducible rfl))
  try simp only [Act.put, List.setIfInBounds_toArray, List.set_cons_zero, List.set_cons_succ]
  refine takeW (i := 17) (oi := { dst := some 28, op := Op.binOp BinOp.add 3 (Operand.tmp 25) (Operand.tmp 27) 3, type := 3, pos := "pattern.go:52", after := #[{ on := 14, ground := Ground.data }, { on := 16, ground := Ground.data }, { on := 10, ground := Ground.guard }], guard := some (10, false) }) (v := ?va162) rfl (by kernel_rfl) (by kernel_rfl) (by kernel_rfl) rfl (fun _ _ _ h => h) (Or.inl ⟨by rfl, ?ya162⟩) (fun _ => by assumption) ?ra162
  case ya162 => (intro w _; go_simp; first | done | (with_reducible rfl))
  try simp only [Act.put, List.setIfInBounds_toArray, List.set_cons_zero, List.set_cons_succ]
  refine takeW (i := 20) (oi := { dst := some 31, op := Op.binOp BinOp.gtr 3 (Operand.tmp 28) (Operand.tmp 30) 3, type := 4, pos := "pattern.go:52", after := #[{ on := 17, ground := Ground.data }, { on := 19, ground := Ground.data }, { on := 10, ground := Ground.guard }], guard := some (10, false) }) (v := ?va163) rfl (by kernel_rfl) (by kernel_rfl) (by kernel_rfl) rfl (fun _ _ _ h => h) (Or.inl ⟨by rfl, ?ya163⟩) (fun _ => by assumption) ?ra163
  case ya163 => (intro w _; go_simp; first | done | (with_reducible rfl))
  try simp only [Act.put, List.setIfInBounds_toArray, List.set_cons_zero, List.set_cons_succ]
  refine takeW (i := 21) (oi := { dst := some 32, op := Op.pick (Operand.tmp 21) (Operand.const (Value.bool true)) (Operand.tmp 31), type := 4, pos := "pattern.go:52", after := #[{ on := 10, ground := Ground.data }, { on := 20, ground := Ground.data }], guard := none }) (v := ?va164) rfl (by kernel_rfl) (by kernel_rfl) (by kernel_rfl) rfl (fun _ _ _ h => h) (Or.inl ⟨by rfl, ?ya164⟩) (fun _ => by assumption) ?ra164
  case ya164 => (intro w _; go_simp; first | done | (with_reducible rfl))
  try simp only [Act.put, List.setIfInBounds_toArray, List.set_cons_zero, List.set_cons_succ]
  refine takeW (i := 22) (oi := { dst := some 33, op := Op.move (Operand.tmp 32), type := 4, pos := "pattern.go:52", after := #[{ on := 21, ground := Ground.data }, { on := 10, ground := Ground.chain }], guard := none }) (v := ?va165) rfl (by kernel_rfl) (by kernel_rfl) (by kernel_rfl) rfl (fun _ _ _ h => h) (Or.inl ⟨by rfl, ?ya165⟩) (fun _ => by assumption) ?ra165
  case ya165 => (intro w _; go_simp; first | done | (with_reducible rfl))
  try simp only [Act.put, List.setIfInBounds_toArray, List.set_cons_zero, List.set_cons_succ]
  refine takeW (i := 23) (oi := { dst := some 34, op := Op.fieldAddr 78 (Operand.tmp 5) 3, type := 0, pos := "pattern.go:52", after := #[{ on := 22, ground := Ground.guard }], guard := some (22, false) }) (v := ?va166) rfl (by kernel_rfl) (by kernel_rfl) (by kernel_rfl) rfl (fun _ _ _ h => h) (Or.inl ⟨by rfl, ?ya166⟩) (fun _ => by assumption) ?ra166
  case ya166 => (intro w _; go_simp; first | done | (with_reducible rfl))
  try simp only [Act.put, List.setIfInBounds_toArray, List.set_cons_zero, List.set_cons_succ]
  refine takeL (i := 24) (oi := { dst := some 35, op := Op.load 3 (Operand.tmp 34), type := 3, pos := "pattern.go:52", after := #[{ on := 23, ground := Ground.data }, { on := 22, ground := Ground.guard }], guard := some (22, false) }) (v := ?va167) rfl (by kernel_rfl) (by kernel_rfl) (by kernel_rfl) (by kernel_rfl) rfl (by kernel_rfl) (by kernel_rfl) (fun _ _ _ h => h) (Or.inl ⟨by rfl, ?ya167⟩) (by assumption) ?ra167
  case ya167 => (intro w hSw; (try dsimp only at hSw); go_simp; first | done | (with_reducible rfl))
  try simp only [Act.put, List.setIfInBounds_toArray, List.set_cons_zero, List.set_cons_succ]
  refine takeW (i := 25) (oi := { dst := some 36, op := Op.binOp BinOp.geq 3 (Operand.tmp 35) (Operand.const (Value.int IntKind.i64 0)) 3, type := 4, pos := "pattern.go:52", after := #[{ on := 24, ground := Ground.data }, { on := 22, ground := Ground.guard }], guard := some (22, false) }) (v := ?va168) rfl (by kernel_rfl) (by kernel_rfl) (by kernel_rfl) rfl (fun _ _ _ h => h) (Or.inl ⟨by rfl, ?ya168⟩) (fun _ => by assumption) ?ra168
  case ya168 => (intro w _; go_simp; first | done | (with_reducible rfl))
  try simp only [Act.put, List.setIfInBounds_toArray, List.set_cons_zero, List.set_cons_succ]
  refine takeW (i := 26) (oi := { dst := some 37, op := Op.move (Operand.tmp 36), type := 4, pos := "pattern.go:52", after := #[{ on := 25, ground := Ground.data }, { on := 22, ground := Ground.chain }, { on := 22, ground := Ground.guard }], guard := some (22, false) }) (v := ?va169) rfl (by kernel_rfl) (by kernel_rfl) (by kernel_rfl) rfl (fun _ _ _ h => h) (Or.inl ⟨by rfl, ?ya169⟩) (fun _ => by assumption) ?ra169
  case ya169 => (intro w _; go_simp; first | done | (with_reducible rfl))
  try simp only [Act.put, List.setIfInBounds_toArray, List.set_cons_zero, List.set_cons_succ]
  refine takeW (i := 27) (oi := { dst := some 38, op := Op.fieldAddr 78 (Operand.tmp 5) 3, type := 0, pos := "pattern.go:52", after := #[{ on := 26, ground := Ground.guard }], guard := some (26, true) }) (v := undef) rfl (by kernel_rfl) (by kernel_rfl) (by kernel_rfl) rfl (fun _ _ _ h => h) (Or.inr ⟨by rfl, rfl⟩) (fun _ => by assumption) ?_
  try simp only [Act.put, List.setIfInBounds_toArray, List.set_cons_zero, List.set_cons_succ]
  refine takeW (i := 29) (oi := { dst := some 40, op := Op.fieldAddr 37 (Operand.tmp 6) 2, type := 0, pos := "pattern.go:52", after := #[{ on := 26, ground := Ground.guard }], guard := some (26, true) }) (v := undef) rfl (by kernel_rfl) (by kernel_rfl) (by kernel_rfl) rfl (fun _ _ _ h => h) (Or.inr ⟨by rfl, rfl⟩) (fun _ => by assumption) ?_
  try simp only [Act.put, List.setIfInBounds_toArray, List.set_cons_zero, List.set_cons_succ]
  refine takeW (i := 28) (oi := { dst := some 39, op := Op.load 3 (Operand.tmp 38), type := 3, pos := "pattern.go:52", after := #[{ on := 27, ground := Ground.data }, { on := 26, ground := Ground.guard }], guard := some (26, true) }) (v := undef) rfl (by kernel_rfl) (by kernel_rfl) (by kernel_rfl) rfl (fun _ _ _ h => h) (Or.inr ⟨by rfl, rfl⟩) (fun _ => by assumption) ?_
  try simp only [Act.put, List.setIfInBounds_toArray, List.set_cons_zero, List.set_cons_succ]
  refine takeW (i := 30) (oi := { dst := some 41, op := Op.load 3 (Operand.tmp 40), type := 3, pos := "pattern.go:52", after := #[{ on := 29, ground := Ground.data }, { on := 26, ground := Ground.guard }], guard := some (26, true) }) (v := undef) rfl (by kernel_rfl) (by kernel_rfl) (by kernel_rfl) rfl (fun _ _ _ h => h) (Or.inr ⟨by rfl, rfl⟩) (fun _ => by assumption) ?_
  try simp only [Act.put, List.setIfInBounds_toArray, List.set_cons_zero, List.set_cons_succ]
  refine takeW (i := 31) (oi := { dst := some 42, op := Op.binOp BinOp.neq 3 (Operand.tmp 39) (Operand.tmp 41) 3, type := 4, pos := "pattern.go:52", after := #[{ on := 28, ground := Ground.data }, { on := 30, ground := Ground.data }, { on := 26, ground := Ground.guard }], guard := some (26, true) }) (v := undef) rfl (by kernel_rfl) (by kernel_rfl) (by kernel_rfl) rfl (fun _ _ _ h => h) (Or.inr ⟨by rfl, rfl⟩) (fun _ => by assumption) ?_
  try simp only [Act.put, List.setIfInBounds_toArray, List.set_cons_zero, List.set_cons_succ]
  refine takeW (i := 32) (oi := { dst := some 43, op := Op.pick (Operand.tmp 37) (Operand.tmp 42) (Operand.const (Value.bool false)), type := 4, pos := "pattern.go:52", after := #[{ on := 26, ground := Ground.data }, { on := 31, ground := Ground.data }, { on := 22, ground := Ground.guard }], guard := some (22, false) }) (v := ?va175) rfl (by kernel_rfl) (by kernel_rfl) (by kernel_rfl) rfl (fun _ _ _ h => h) (Or.inl ⟨by rfl, ?ya175⟩) (fun _ => by assumption) ?ra175
  case ya175 => (intro w _; go_simp; first | done | (with_reducible rfl))
  try simp only [Act.put, List.setIfInBounds_toArray, List.set_cons_zero, List.set_cons_succ]
  refine takeW (i := 33) (oi := { dst := some 44, op := Op.pick (Operand.tmp 33) (Operand.const (Value.bool true)) (Operand.tmp 43), type := 4, pos := "pattern.go:52", after := #[{ on := 22, ground := Ground.data }, { on := 32, ground := Ground.data }], guard := none }) (v := ?va176) rfl (by kernel_rfl) (by kernel_rfl) (by kernel_rfl) rfl (fun _ _ _ h => h) (Or.inl ⟨by rfl, ?ya176⟩) (fun _ => by assumption) ?ra176
  case ya176 => (intro w _; go_simp; first | done | (with_reducible rfl))
  try simp only [Act.put, List.setIfInBounds_toArray, List.set_cons_zero, List.set_cons_succ]
  refine doneL (by kernel_rfl) ?_ _
  refine NoPanic.normal ?_
  have HBd := Lib.hid (below_drew HB.out)
  have hz0d : w.heap.size + 1 + 1 < w3.drew.heap.size := hz0
  have r1 : w3.drew.cell? ⟨w.heap.size, 1, none⟩ = some (.int .i64 R.width) := r1
  have r2 : w3.drew.cell? ⟨w.heap.size, 2, none⟩ = some (.int .i64 R.height) := r2
  have x0 : w3.drew.cell? ⟨w.heap.size + 1, 0, none⟩ = some (.int .i64 x.width) := x0
  have x1 : w3.drew.cell? ⟨w.heap.size + 1, 1, none⟩ = some (.int .i64 x.height) := x1
  have x2 : w3.drew.cell? ⟨w.heap.size + 1, 2, none⟩ = some (.slice ax x.cells.length cx) := x2
  have x3 : w3.drew.cell? ⟨w.heap.size + 1, 3, none⟩ = some (.int .i64 x.turn) := x3
  have p0 : w3.drew.cell? ⟨w.heap.size + 1 + 1, 0, none⟩ = some (.slice ac p.cells.length cc) := p0
  have p3 : w3.drew.cell? ⟨w.heap.size + 1 + 1, 3, none⟩ = some (.int .i64 p.turn) := p3
  clear HB hz0
  generalize w3.drew = w4 at *
  go_wp2_with fail
  go_loopw [48] (fun i wr => ∃ k : Nat, k ≤ x.cells.length ∧ i = .int .i64 k ∧ Hid ((List.range x.cells.length).all (fun i => fitsZ (x.cells.getD i 0) (p.cells.getD (s + (i : Int) / x.width * R.width + (i : Int) % x.width).toNat 0)) = ((List.range x.cells.length).drop k).all (fun i => fitsZ (x.cells.getD i 0) (p.cells.getD (s + (i : Int) / x.width * R.width + (i : Int) % x.width).toNat 0))) ∧ Hid (Below w4.heap.size w4 wr)) (fun i _ => x.cells.length - (intOf i).toNat)
  case atStart => exact ⟨0, Nat.zero_le _, rfl, Lib.hid rfl, Lib.hid (Below.refl _ _)⟩
  case round =>
    obtain ⟨k, hk, rfl, HK, HBr⟩ := hrel
    have r1r := (HBr.out.cell (p := ⟨w.heap.size, 1, none⟩) (by show w.heap.size < w4.heap.size; omega)).trans r1
    have r2r := (HBr.out.cell (p := ⟨w.heap.size, 2, none⟩) (by show w.heap.size < w4.heap.size; omega)).trans r2
    have x0r := (HBr.out.cell (p := ⟨w.heap.size + 1, 0, none⟩) (by show w.heap.size + 1 < w4.heap.size; omega)).trans x0
    have x1r := (HBr.out.cell (p := ⟨w.heap.size + 1, 1, none⟩) (by show w.heap.size + 1 < w4.heap.size; omega)).trans x1
    have x2r := (HBr.out.cell (p := ⟨w.heap.size + 1, 2, none⟩) (by show w.heap.size + 1 < w4.heap.size; omega)).trans x2
    have x3r := (HBr.out.cell (p := ⟨w.heap.size + 1, 3, none⟩) (by show w.heap.size + 1 < w4.heap.size; omega)).trans x3
    have p0r := (HBr.out.cell (p := ⟨w.heap.size + 1 + 1, 0, none⟩) (by show w.heap.size + 1 + 1 < w4.heap.size; omega)).trans p0
    have p3r := (HBr.out.cell (p := ⟨w.heap.size + 1 + 1, 3, none⟩) (by show w.heap.size + 1 + 1 < w4.heap.size; omega)).trans p3
    have HBw : Hid (Below w.heap.size w wr) := Lib.hid (HBd.out.trans (HBr.out.mono HBd.out.size))
    by_cases hlt : k < x.cells.length
    · have HS := Lib.hid (all_from (fun i => fitsZ (x.cells.getD i 0) (p.cells.getD (s + (i : Int) / x.width * R.width + (i : Int) % x.width).toNat 0)) x.cells.length k hlt)
      obtain ⟨f1, f2, f3, f4, f5, f6, f7, f8⟩ := fit_idx HF.out (by omega) (by omega) k hlt
      obtain ⟨gx, ox, cx', hxe, _, _, hgx, hxc⟩ := (HX.out.below HBw.out (Nat.le_refl _)).some (by omega)
      simp only [Value.slice.injEq] at hxe
      obtain ⟨rfl, _, rfl⟩ := hxe
      obtain ⟨gc, oc, cc', hce, _, _, hgc, hcc⟩ := (HP.out.1.below HBw.out (Nat.le_refl _)).some (by omega)
      simp only [Value.slice.injEq] at hce
      obtain ⟨rfl, _, rfl⟩ := hce
      have dk := hxc k hlt
      have dc := hcc (s + (k : Int) / x.width * R.width + (k : Int) % x.width).toNat (by omega)
      have hcb := HF.out.pc (p.cells.getD (s + (k : Int) / x.width * R.width + (k : Int) % x.width).toNat 0) (by rw [List.getD_eq_getElem?_getD, List.getElem?_eq_getElem (by omega)]; exact List.getElem_mem _)
      generalize hz : x.cells.getD k 0 = z at *
      generalize hcz : p.cells.getD (s + (k : Int) / x.width * R.width + (k : Int) % x.width).toNat 0 = c at *
      have HSz : Hid (((List.range x.cells.length).drop k).all (fun i => fitsZ (x.cells.getD i 0) (p.cells.getD (s + (i : Int) / x.width * R.width + (i : Int) % x.width).toNat 0)) = (fitsZ z c && ((List.range x.cells.length).drop (k + 1)).all (fun i => fitsZ (x.cells.getD i 0) (p.cells.getD (s + (i : Int) / x.width * R.width + (i : Int) % x.width).toNat 0)))) := Lib.hid (by rw [HS.out])
      have k0 : (0 : Int) ≤ (k : Int) := by omega
      have k1 : (k : Int) < (x.cells.length : Int) := by omega
      have n1 : (k : Int).tdiv x.width = (k : Int) / x.width := Int.tdiv_eq_ediv_of_nonneg k0
      have n2 : (k : Int).tmod x.width = (k : Int) % x.width := Int.tmod_eq_emod_of_nonneg k0
      have m1 : IntKind.i64.wrap ((k : Int) / x.width) = (k : Int) / x.width := IntWalk.i64_in _ (by omega)
      have m2 : IntKind.i64.wrap ((k : Int) / x.width * R.width) = (k : Int) / x.width * R.width := IntWalk.i64_in _ (by omega)
      have m3 : IntKind.i64.wrap (s + (k : Int) / x.width * R.width) = s + (k : Int) / x.width * R.width := IntWalk.i64_in _ (by omega)
      have m4 : IntKind.i64.wrap ((k : Int) % x.width) = (k : Int) % x.width := IntWalk.i64_in _ (by omega)
      have m5 : IntKind.i64.wrap (s + (k : Int) / x.width * R.width + (k : Int) % x.width) = s + (k : Int) / x.width * R.width + (k : Int) % x.width := IntWalk.i64_in _ (by omega)
      have xw0 : ¬ x.width = 0 := by omega
      clear hxc hcc hz hcz HS
      clear r1 r2 x0 x1 x2 x3 p0 p3
      have r1 := r1r
      have r2 := r2r
      have x0 := x0r
      have x1 := x1r
      have x2 := x2r
      have x3 := x3r
      have p0 := p0r
      have p3 := p3r
      clear r1r r2r x0r x1r x2r x3r p0r p3r
      cases hf : fitsZ z c
      · go_wp2_with fail
        refine wp_region_noPanic ?_
        refine beginL (S := (fun w' => w'.cell? ⟨w.heap.size, 1, none⟩ = some (.int .i64 R.width) ∧ w'.cell? ⟨w.heap.size, 2, none⟩ = some (.int .i64 R.height) ∧ w'.cell? ⟨w.heap.size + 1, 0, none⟩ = some (.int .i64 x.width) ∧ w'.cell? ⟨w.heap.size + 1, 1, none⟩ = some (.int .i64 x.height) ∧ w'.cell? ⟨w.heap.size + 1, 2, none⟩ = some (.slice (some ⟨gx, ox, none⟩) x.cells.length cx) ∧ w'.cell? ⟨w.heap.size + 1, 3, none⟩ = some (.int .i64 x.turn) ∧ w'.cell? ⟨w.heap.size + 1 + 1, 0, none⟩ = some (.slice (some ⟨gc, oc, none⟩) p.cells.length cc) ∧ w'.cell? ⟨w.heap.size + 1 + 1, 3, none⟩ = some (.int .i64 p.turn) ∧ w'.cell? ⟨gc, oc + (s + (k : Int) / x.width * R.width + (k : Int) % x.width).toNat, none⟩ = some (.int .i64 c))) (L := []) (by kernel_rfl) ⟨r1, r2, x0, x1, x2, x3, p0, p3, dc⟩ (fun hHeld => ?_)
        refine takeW (i := 0) (oi := { dst := some 53, op := Op.move (Operand.tmp 10), type := 3, pos := "pattern.go:56", after := #[], guard := none }) (v := ?va177) rfl (by kernel_rfl) (by kernel_rfl) (by kernel_rfl) rfl (fun _ _ _ h => h) (Or.inl ⟨by rfl, ?ya177⟩) (fun _ => by assumption) ?ra177
        case ya177 => (intro w _; go_simp; first | done | (with_reducible rfl))
        try simp only [Act.put, List.setIfInBounds_toArray, List.set_cons_zero, List.set_cons_succ]
        refine takeW (i := 1) (oi := { dst := some 54, op := Op.fieldAddr 37 (Operand.tmp 6) 0, type := 0, pos := "pattern.go:56", after := #[], guard := none }) (v := ?va178) rfl (by kernel_rfl) (by kernel_rfl) (by kernel_rfl) rfl (fun _ _ _ h => h) (Or.inl ⟨by rfl, ?ya178⟩) (fun _ => by assumption) ?ra178
        case ya178 => (intro w _; go_simp; first | done | (with_reducible rfl))
        try simp only [Act.put, List.setIfInBounds_toArray, List.set_cons_zero, List.set_cons_succ]
        refine takeW (i := 3) (oi := { dst := some 56, op := Op.move (Operand.tmp 3), type := 3, pos := "pattern.go:56", after := #[], guard := none }) (v := ?va179) rfl (by kernel_rfl) (by kernel_rfl) (by kernel_rfl) rfl (fun _ _ _ h => h) (Or.inl ⟨by rfl, ?ya179⟩) (fun _ => by assumption) ?ra179
        case ya179 => (intro w _; go_simp; first | done | (with_reducible rfl))
        try simp only [Act.put, List.setIfInBounds_toArray, List.set_cons_zero, List.set_cons_succ]
        refine takeW (i := 4) (oi := { dst := some 57, op := Op.move (Operand.tmp 9), type := 3, pos := "pattern.go:56", after := #[], guard := none }) (v := ?va180) rfl (by kernel_rfl) (by kernel_rfl) (by kernel_rfl) rfl (fun _ _ _ h => h) (Or.inl ⟨by rfl, ?ya180⟩) (fun _ => by assumption) ?ra180
        case ya180 => (intro w _; go_simp; first | done | (with_reducible rfl))
        try simp only [Act.put, List.setIfInBounds_toArray, List.set_cons_zero, List.set_cons_succ]
        refine takeW (i := 5) (oi := { dst := some 58, op := Op.fieldAddr 78 (Operand.tmp 5) 0, type := 0, pos := "pattern.go:56", after := #[], guard := none }) (v := ?va181) rfl (by kernel_rfl) (by kernel_rfl) (by kernel_rfl) rfl (fun _ _ _ h => h) (Or.inl ⟨by rfl, ?ya181⟩) (fun _ => by assumption) ?ra181
        case ya181 => (intro w _; go_simp; first | done | (with_reducible rfl))
        try simp only [Act.put, List.setIfInBounds_toArray, List.set_cons_zero, List.set_cons_succ]
        refine takeW (i := 8) (oi := { dst := some 61, op := Op.fieldAddr 26 (Operand.tmp 4) 1, type := 0, pos := "pattern.go:56", after := #[], guard := none }) (v := ?va182) rfl (by kernel_rfl) (by kernel_rfl) (by kernel_rfl) rfl (fun _ _ _ h => h) (Or.inl ⟨by rfl, ?ya182⟩) (fun _ => by assumption) ?ra182
        case ya182 => (intro w _; go_simp; first | done | (with_reducible rfl))
        try simp only [Act.put, List.setIfInBounds_toArray, List.set_cons_zero, List.set_cons_succ]
        refine takeW (i := 12) (oi := { dst := some 65, op := Op.move (Operand.tmp 9), type := 3, pos := "pattern.go:56", after := #[], guard := none }) (v := ?va183) rfl (by kernel_rfl) (by kernel_rfl) (by kernel_rfl) rfl (fun _ _ _ h => h) (Or.inl ⟨by rfl, ?ya183⟩) (fun _ => by assumption) ?ra183
        case ya183 => (intro w _; go_simp; first | done | (with_reducible rfl))
        try simp only [Act.put, List.setIfInBounds_toArray, List.set_cons_zero, List.set_cons_succ]
        refine takeW (i := 13) (oi := { dst := some 66, op := Op.fieldAddr 78 (Operand.tmp 5) 0, type := 0, pos := "pattern.go:56", after := #[], guard := none }) (v := ?va184) rfl (by kernel_rfl) (by kernel_rfl) (by kernel_rfl) rfl (fun _ _ _ h => h) (Or.inl ⟨by rfl, ?ya184⟩) (fun _ => by assumption) ?ra184
        case ya184 => (intro w _; go_simp; first | done | (with_reducible rfl))
        try simp only [Act.put, List.setIfInBounds_toArray, List.set_cons_zero, List.set_cons_succ]
        refine takeL (i := 2) (oi := { dst := some 55, op := Op.load 23 (Operand.tmp 54), type := 23, pos := "pattern.go:56", after := #[{ on := 1, ground := Ground.data }], guard := none }) (v := ?va185) rfl (by kernel_rfl) (by kernel_rfl) (by kernel_rfl) (by kernel_rfl) rfl (by kernel_rfl) (by kernel_rfl) (fun _ _ _ h => h) (Or.inl ⟨by rfl, ?ya185⟩) (by assumption) ?ra185
        case ya185 => (intro w hSw; (try dsimp only at hSw); go_simp; first | done | (with_reducible rfl))
        try simp only [Act.put, List.setIfInBounds_toArray, List.set_cons_zero, List.set_cons_succ]
        refine takeL (i := 6) (oi := { dst := some 59, op := Op.load 3 (Operand.tmp 58), type := 3, pos := "pattern.go:56", after := #[{ on := 5, ground := Ground.data }], guard := none }) (v := ?va186) rfl (by kernel_rfl) (by kernel_rfl) (by kernel_rfl) (by kernel_rfl) rfl (by kernel_rfl) (by kernel_rfl) (fun _ _ _ h => h) (Or.inl ⟨by rfl, ?ya186⟩) (by assumption) ?ra186
        case ya186 => (intro w hSw; (try dsimp only at hSw); go_simp; first | done | (with_reducible rfl))
        try simp only [Act.put, List.setIfInBounds_toArray, List.set_cons_zero, List.set_cons_succ]
        refine takeL (i := 9) (oi := { dst := some 62, op := Op.load 3 (Operand.tmp 61), type := 3, pos := "pattern.go:56", after := #[{ on := 8, ground := Ground.data }], guard := none }) (v := ?va187) rfl (by kernel_rfl) (by kernel_rfl) (by kernel_rfl) (by kernel_rfl) rfl (by kernel_rfl) (by kernel_rfl) (fun _ _ _ h => h) (Or.inl ⟨by rfl, ?ya187⟩) (by assumption) ?ra187
        case ya187 => (intro w hSw; (try dsimp only at hSw); go_simp; first | done | (with_reducible rfl))
        try simp only [Act.put, List.setIfInBounds_toArray, List.set_cons_zero, List.set_cons_succ]
        refine takeL (i := 14) (oi := { dst := some 67, op := Op.load 3 (Operand.tmp 66), type := 3, pos := "pattern.go:56", after := #[{ on := 13, ground := Ground.data }], guard := none }) (v := ?va188) rfl (by kernel_rfl) (by kernel_rfl) (by kernel_rfl) (by kernel_rfl) rfl (by kernel_rfl) (by kernel_rfl) (fun _ _ _ h => h) (Or.inl ⟨by rfl, ?ya188⟩) (by assumption) ?ra188
        case ya188 => (intro w hSw; (try dsimp only at hSw); go_simp; first | done | (with_reducible rfl))
        try simp only [Act.put, List.setIfInBounds_toArray, List.set_cons_zero, List.set_cons_succ]
        refine takeW (i := 7) (oi := { dst := some 60, op := Op.binOp BinOp.quo 3 (Operand.tmp 57) (Operand.tmp 59) 3, type := 3, pos := "pattern.go:56", after := #[{ on := 4, ground := Ground.data }, { on := 6, ground := Ground.data }], guard := none }) (v := ?va189) rfl (by kernel_rfl) (by kernel_rfl) (by kernel_rfl) rfl (fun _ _ _ h => h) (Or.inl ⟨by rfl, ?ya189⟩) (fun _ => by assumption) ?ra189
        case ya189 => (intro w _; go_simp; first | done | (with_reducible rfl))
        try simp only [Act.put, List.setIfInBounds_toArray, List.set_cons_zero, List.set_cons_succ]
        refine takeW (i := 15) (oi := { dst := some 68, op := Op.binOp BinOp.rem 3 (Operand.tmp 65) (Operand.tmp 67) 3, type := 3, pos := "pattern.go:56", after := #[{ on := 12, ground := Ground.data }, { on := 14, ground := Ground.data }], guard := none }) (v := ?va190) rfl (by kernel_rfl) (by kernel_rfl) (by kernel_rfl) rfl (fun _ _ _ h => h) (Or.inl ⟨by rfl, ?ya190⟩) (fun _ => by assumption) ?ra190
        case ya190 => (intro w _; go_simp; first | done | (with_reducible rfl))
        try simp only [Act.put, List.setIfInBounds_toArray, List.set_cons_zero, List.set_cons_succ]
        refine takeW (i := 10) (oi := { dst := some 63, op := Op.binOp BinOp.mul 3 (Operand.tmp 60) (Operand.tmp 62) 3, type := 3, pos := "pattern.go:56", after := #[{ on := 7, ground := Ground.data }, { on := 9, ground := Ground.data }], guard := none }) (v := ?va191) rfl (by kernel_rfl) (by kernel_rfl) (by kernel_rfl) rfl (fun _ _ _ h => h) (Or.inl ⟨by rfl, ?ya191⟩) (fun _ => by assumption) ?ra191
        case ya191 => (intro w _; go_simp; first | done | (with_reducible rfl))
        try simp only [Act.put, List.setIfInBounds_toArray, List.set_cons_zero, List.set_cons_succ]
        refine takeW (i := 11) (oi := { dst := some 64, op := Op.binOp BinOp.add 3 (Operand.tmp 56) (Operand.tmp 63) 3, type := 3, pos := "pattern.go:56", after := #[{ on := 3, ground := Ground.data }, { on := 10, ground := Ground.data }], guard := none }) (v := ?va192) rfl (by kernel_rfl) (by kernel_rfl) (by kernel_rfl) rfl (fun _ _ _ h => h) (Or.inl ⟨by rfl, ?ya192⟩) (fun _ => by assumption) ?ra192
        case ya192 => (intro w _; go_simp; first | done | (with_reducible rfl))
        try simp only [Act.put, List.setIfInBounds_toArray, List.set_cons_zero, List.set_cons_succ]
        refine takeW (i := 16) (oi := { dst := some 69, op := Op.binOp BinOp.add 3 (Operand.tmp 64) (Operand.tmp 68) 3, type := 3, pos := "pattern.go:56", after := #[{ on := 11, ground := Ground.data }, { on := 15, ground := Ground.data }], guard := none }) (v := ?va193) rfl (by kernel_rfl) (by kernel_rfl) (by kernel_rfl) rfl (fun _ _ _ h => h) (Or.inl ⟨by rfl, ?ya193⟩) (fun _ => by assumption) ?ra193
        case ya193 => (intro w _; go_simp; first | done | (with_reducible rfl))
        try simp only [Act.put, List.setIfInBounds_toArray, List.set_cons_zero, List.set_cons_succ]
        refine takeW (i := 17) (oi := { dst := some 70, op := Op.indexAddr 23 (Operand.tmp 55) (Operand.tmp 69), type := 0, pos := "pattern.go:56", after := #[{ on := 2, ground := Ground.data }, { on := 16, ground := Ground.data }], guard := none }) (v := ?va194) rfl (by kernel_rfl) (by kernel_rfl) (by kernel_rfl) rfl (fun _ _ _ h => h) (Or.inl ⟨by rfl, ?ya194⟩) (fun _ => by assumption) ?ra194
        case ya194 => (intro w _; go_simp; first | done | (with_reducible rfl))
        try simp only [Act.put, List.setIfInBounds_toArray, List.set_cons_zero, List.set_cons_succ]
        refine takeL (i := 18) (oi := { dst := some 71, op := Op.load 3 (Operand.tmp 70), type := 3, pos := "pattern.go:56", after := #[{ on := 17, ground := Ground.data }], guard := none }) (v := ?va195) rfl (by kernel_rfl) (by kernel_rfl) (by kernel_rfl) (by kernel_rfl) rfl (by kernel_rfl) (by kernel_rfl) (fun _ _ _ h => h) (Or.inl ⟨by rfl, ?ya195⟩) (by assumption) ?ra195
        case ya195 => (intro w hSw; (try dsimp only at hSw); go_simp; first | done | (with_reducible rfl))
        try simp only [Act.put, List.setIfInBounds_toArray, List.set_cons_zero, List.set_cons_succ]
        refine readyL (rs := [19]) (by kernel_rfl) (by simp) ?_
        refine (AllReadyL.cons (o := { dst := some 72, op := Op.call { callee := Callee.value (Operand.func 170), args := #[Operand.tmp 53, Operand.tmp 71], argTypes := #[3, 3] }, type := 4, pos := "pattern.go:56", after := #[{ on := 0, ground := Ground.data }, { on := 18, ground := Ground.data }], guard := none }) rfl (fun K hK => ?_) AllReadyL.nil)
        go_simp
        refine (fits_any _ _ _ hcb.1 hcb.2).mono ?_
        rintro e w' ⟨rfl, rfl⟩
        refine hK.out _ _ ⟨r1, r2, x0, x1, x2, x3, p0, p3, dc⟩ (fun hHeld => ?_)
        clear hK K
        try simp only [Act.put, List.setIfInBounds_toArray, List.set_cons_zero, List.set_cons_succ]
        refine takeW (i := 20) (oi := { dst := some 73, op := Op.unOp UnOp.not 4 (Operand.tmp 72), type := 4, pos := "pattern.go:56", after := #[{ on := 19, ground := Ground.data }], guard := none }) (v := ?va196) rfl (by kernel_rfl) (by kernel_rfl) (by kernel_rfl) rfl (fun _ _ _ h => h) (Or.inl ⟨by rfl, ?ya196⟩) (fun _ => by assumption) ?ra196
        case ya196 => (intro w _; go_simp; first | done | (with_reducible rfl))
        try simp only [Act.put, List.setIfInBounds_toArray, List.set_cons_zero, List.set_cons_succ]
        refine doneL (by kernel_rfl) ?_ _
        refine NoPanic.normal ?_
        rw [hf]
        go_wp2_with fail
        go_ret
        exact ⟨by rw [HE.out, HK.out, HSz.out, hf]; rfl, below_drew HBw.out⟩
      · go_wp2_with fail
        refine wp_region_noPanic ?_
        refine beginL (S := (fun w' => w'.cell? ⟨w.heap.size, 1, none⟩ = some (.int .i64 R.width) ∧ w'.cell? ⟨w.heap.size, 2, none⟩ = some (.int .i64 R.height) ∧ w'.cell? ⟨w.heap.size + 1, 0, none⟩ = some (.int .i64 x.width) ∧ w'.cell? ⟨w.heap.size + 1, 1, none⟩ = some (.int .i64 x.height) ∧ w'.cell? ⟨w.heap.size + 1, 2, none⟩ = some (.slice (some ⟨gx, ox, none⟩) x.cells.length cx) ∧ w'.cell? ⟨w.heap.size + 1, 3, none⟩ = some (.int .i64 x.turn) ∧ w'.cell? ⟨w.heap.size + 1 + 1, 0, none⟩ = some (.slice (some ⟨gc, oc, none⟩) p.cells.length cc) ∧ w'.cell? ⟨w.heap.size + 1 + 1, 3, none⟩ = some (.int .i64 p.turn) ∧ w'.cell? ⟨gc, oc + (s + (k : Int) / x.width * R.width + (k : Int) % x.width).toNat, none⟩ = some (.int .i64 c))) (L := []) (by kernel_rfl) ⟨r1, r2, x0, x1, x2, x3, p0, p3, dc⟩ (fun hHeld => ?_)
        refine takeW (i := 0) (oi := { dst := some 53, op := Op.move (Operand.tmp 10), type := 3, pos := "pattern.go:56", after := #[], guard := none }) (v := ?va197) rfl (by kernel_rfl) (by kernel_rfl) (by kernel_rfl) rfl (fun _ _ _ h => h) (Or.inl ⟨by rfl, ?ya197⟩) (fun _ => by assumption) ?ra197
        case ya197 => (intro w _; go_simp; first | done | (with_reducible rfl))
        try simp only [Act.put, List.setIfInBounds_toArray, List.set_cons_zero, List.set_cons_succ]
        refine takeW (i := 1) (oi := { dst := some 54, op := Op.fieldAddr 37 (Operand.tmp 6) 0, type := 0, pos := "pattern.go:56", after := #[], guard := none }) (v := ?va198) rfl (by kernel_rfl) (by kernel_rfl) (by kernel_rfl) rfl (fun _ _ _ h => h) (Or.inl ⟨by rfl, ?ya198⟩) (fun _ => by assumption) ?ra198
        case ya198 => (intro w _; go_simp; first | done | (with_reducible rfl))
        try simp only [Act.put, List.setIfInBounds_toArray, List.set_cons_zero, List.set_cons_succ]
        refine takeW (i := 3) (oi := { dst := some 56, op := Op.move (Operand.tmp 3), type := 3, pos := "pattern.go:56", after := #[], guard := none }) (v := ?va199) rfl (by kernel_rfl) (by kernel_rfl) (by kernel_rfl) rfl (fun _ _ _ h => h) (Or.inl ⟨by rfl, ?ya199⟩) (fun _ => by assumption) ?ra199
        case ya199 => (intro w _; go_simp; first | done | (with_reducible rfl))
        try simp only [Act.put, List.setIfInBounds_toArray, List.set_cons_zero, List.set_cons_succ]
        refine takeW (i := 4) (oi := { dst := some 57, op := Op.move (Operand.tmp 9), type := 3, pos := "pattern.go:56", after := #[], guard := none }) (v := ?va200) rfl (by kernel_rfl) (by kernel_rfl) (by kernel_rfl) rfl (fun _ _ _ h => h) (Or.inl ⟨by rfl, ?ya200⟩) (fun _ => by assumption) ?ra200
        case ya200 => (intro w _; go_simp; first | done | (with_reducible rfl))
        try simp only [Act.put, List.setIfInBounds_toArray, List.set_cons_zero, List.set_cons_succ]
        refine takeW (i := 5) (oi := { dst := some 58, op := Op.fieldAddr 78 (Operand.tmp 5) 0, type := 0, pos := "pattern.go:56", after := #[], guard := none }) (v := ?va201) rfl (by kernel_rfl) (by kernel_rfl) (by kernel_rfl) rfl (fun _ _ _ h => h) (Or.inl ⟨by rfl, ?ya201⟩) (fun _ => by assumption) ?ra201
        case ya201 => (intro w _; go_simp; first | done | (with_reducible rfl))
        try simp only [Act.put, List.setIfInBounds_toArray, List.set_cons_zero, List.set_cons_succ]
        refine takeW (i := 8) (oi := { dst := some 61, op := Op.fieldAddr 26 (Operand.tmp 4) 1, type := 0, pos := "pattern.go:56", after := #[], guard := none }) (v := ?va202) rfl (by kernel_rfl) (by kernel_rfl) (by kernel_rfl) rfl (fun _ _ _ h => h) (Or.inl ⟨by rfl, ?ya202⟩) (fun _ => by assumption) ?ra202
        case ya202 => (intro w _; go_simp; first | done | (with_reducible rfl))
        try simp only [Act.put, List.setIfInBounds_toArray, List.set_cons_zero, List.set_cons_succ]
        refine takeW (i := 12) (oi := { dst := some 65, op := Op.move (Operand.tmp 9), type := 3, pos := "pattern.go:56", after := #[], guard := none }) (v := ?va203) rfl (by kernel_rfl) (by kernel_rfl) (by kernel_rfl) rfl (fun _ _ _ h => h) (Or.inl ⟨by rfl, ?ya203⟩) (fun _ => by assumption) ?ra203
        case ya203 => (intro w _; go_simp; first | done | (with_reducible rfl))
        try simp only [Act.put, List.setIfInBounds_toArray, List.set_cons_zero, List.set_cons_succ]
        refine takeW (i := 13) (oi := { dst := some 66, op := Op.fieldAddr 78 (Operand.tmp 5) 0, type := 0, pos := "pattern.go:56", after := #[], guard := none }) (v := ?va204) rfl (by kernel_rfl) (by kernel_rfl) (by kernel_rfl) rfl (fun _ _ _ h => h) (Or.inl ⟨by rfl, ?ya204⟩) (fun _ => by assumption) ?ra204
        case ya204 => (intro w _; go_simp; first | done | (with_reducible rfl))
        try simp only [Act.put, List.setIfInBounds_toArray, List.set_cons_zero, List.set_cons_succ]
        refine takeL (i := 2) (oi := { dst := some 55, op := Op.load 23 (Operand.tmp 54), type := 23, pos := "pattern.go:56", after := #[{ on := 1, ground := Ground.data }], guard := none }) (v := ?va205) rfl (by kernel_rfl) (by kernel_rfl) (by kernel_rfl) (by kernel_rfl) rfl (by kernel_rfl) (by kernel_rfl) (fun _ _ _ h => h) (Or.inl ⟨by rfl, ?ya205⟩) (by assumption) ?ra205
        case ya205 => (intro w hSw; (try dsimp only at hSw); go_simp; first | done | (with_reducible rfl))
        try simp only [Act.put, List.setIfInBounds_toArray, List.set_cons_zero, List.set_cons_succ]
        refine takeL (i := 6) (oi := { dst := some 59, op := Op.load 3 (Operand.tmp 58), type := 3, pos := "pattern.go:56", after := #[{ on := 5, ground := Ground.data }], guard := none }) (v := ?va206) rfl (by kernel_rfl) (by kernel_rfl) (by kernel_rfl) (by kernel_rfl) rfl (by kernel_rfl) (by kernel_rfl) (fun _ _ _ h => h) (Or.inl ⟨by rfl, ?ya206⟩) (by assumption) ?ra206
        case ya206 => (intro w hSw; (try dsimp only at hSw); go_simp; first | done | (with_reducible rfl))
        try simp only [Act.put, List.setIfInBounds_toArray, List.set_cons_zero, List.set_cons_succ]
        refine takeL (i := 9) (oi := { dst := some 62, op := Op.load 3 (Operand.tmp 61), type := 3, pos := "pattern.go:56", after := #[{ on := 8, ground := Ground.data }], guard := none }) (v := ?va207) rfl (by kernel_rfl) (by kernel_rfl) (by kernel_rfl) (by kernel_rfl) rfl (by kernel_rfl) (by kernel_rfl) (fun _ _ _ h => h) (Or.inl ⟨by rfl, ?ya207⟩) (by assumption) ?ra207
        case ya207 => (intro w hSw; (try dsimp only at hSw); go_simp; first | done | (with_reducible rfl))
        try simp only [Act.put, List.setIfInBounds_toArray, List.set_cons_zero, List.set_cons_succ]
        refine takeL (i := 14) (oi := { dst := some 67, op := Op.load 3 (Operand.tmp 66), type := 3, pos := "pattern.go:56", after := #[{ on := 13, ground := Ground.data }], guard := none }) (v := ?va208) rfl (by kernel_rfl) (by kernel_rfl) (by kernel_rfl) (by kernel_rfl) rfl (by kernel_rfl) (by kernel_rfl) (fun _ _ _ h => h) (Or.inl ⟨by rfl, ?ya208⟩) (by assumption) ?ra208
        case ya208 => (intro w hSw; (try dsimp only at hSw); go_simp; first | done | (with_reducible rfl))
        try simp only [Act.put, List.setIfInBounds_toArray, List.set_cons_zero, List.set_cons_succ]
        refine takeW (i := 7) (oi := { dst := some 60, op := Op.binOp BinOp.quo 3 (Operand.tmp 57) (Operand.tmp 59) 3, type := 3, pos := "pattern.go:56", after := #[{ on := 4, ground := Ground.data }, { on := 6, ground := Ground.data }], guard := none }) (v := ?va209) rfl (by kernel_rfl) (by kernel_rfl) (by kernel_rfl) rfl (fun _ _ _ h => h) (Or.inl ⟨by rfl, ?ya209⟩) (fun _ => by assumption) ?ra209
        case ya209 => (intro w _; go_simp; first | done | (with_reducible rfl))
        try simp only [Act.put, List.setIfInBounds_toArray, List.set_cons_zero, List.set_cons_succ]
        refine takeW (i := 15) (oi := { dst := some 68, op := Op.binOp BinOp.rem 3 (Operand.tmp 65) (Operand.tmp 67) 3, type := 3, pos := "pattern.go:56", after := #[{ on := 12, ground := Ground.data }, { on := 14, ground := Ground.data }], guard := none }) (v := ?va210) rfl (by kernel_rfl) (by kernel_rfl) (by kernel_rfl) rfl (fun _ _ _ h => h) (Or.inl ⟨by rfl, ?ya210⟩) (fun _ => by assumption) ?ra210
        case ya210 => (intro w _; go_simp; first | done | (with_reducible rfl))
        try simp only [Act.put, List.setIfInBounds_toArray, List.set_cons_zero, List.set_cons_succ]
        refine takeW (i := 10) (oi := { dst := some 63, op := Op.binOp BinOp.mul 3 (Operand.tmp 60) (Operand.tmp 62) 3, type := 3, pos := "pattern.go:56", after := #[{ on := 7, ground := Ground.data }, { on := 9, ground := Ground.data }], guard := none }) (v := ?va211) rfl (by kernel_rfl) (by kernel_rfl) (by kernel_rfl) rfl (fun _ _ _ h => h) (Or.inl ⟨by rfl, ?ya211⟩) (fun _ => by assumption) ?ra211
        case ya211 => (intro w _; go_simp; first | done | (with_reducible rfl))
        try simp only [Act.put, List.setIfInBounds_toArray, List.set_cons_zero, List.set_cons_succ]
        refine takeW (i := 11) (oi := { dst := some 64, op := Op.binOp BinOp.add 3 (Operand.tmp 56) (Operand.tmp 63) 3, type := 3, pos := "pattern.go:56", after := #[{ on := 3, ground := Ground.data }, { on := 10, ground := Ground.data }], guard := none }) (v := ?va212) rfl (by kernel_rfl) (by kernel_rfl) (by kernel_rfl) rfl (fun _ _ _ h => h) (Or.inl ⟨by rfl, ?ya212⟩) (fun _ => by assumption) ?ra212
        case ya212 => (intro w _; go_simp; first | done | (with_reducible rfl))
        try simp only [Act.put, List.setIfInBounds_toArray, List.set_cons_zero, List.set_cons_succ]
        refine takeW (i := 16) (oi := { dst := some 69, op := Op.binOp BinOp.add 3 (Operand.tmp 64) (Operand.tmp 68) 3, type := 3, pos := "pattern.go:56", after := #[{ on := 11, ground := Ground.data }, { on := 15, ground := Ground.data }], guard := none }) (v := ?va213) rfl (by kernel_rfl) (by kernel_rfl) (by kernel_rfl) rfl (fun _ _ _ h => h) (Or.inl ⟨by rfl, ?ya213⟩) (fun _ => by assumption) ?ra213
        case ya213 => (intro w _; go_simp; first | done | (with_reducible rfl))
        try simp only [Act.put, List.setIfInBounds_toArray, List.set_cons_zero, List.set_cons_succ]
        refine takeW (i := 17) (oi := { dst := some 70, op := Op.indexAddr 23 (Operand.tmp 55) (Operand.tmp 69), type := 0, pos := "pattern.go:56", after := #[{ on := 2, ground := Ground.data }, { on := 16, ground := Ground.data }], guard := none }) (v := ?va214) rfl (by kernel_rfl) (by kernel_rfl) (by kernel_rfl) rfl (fun _ _ _ h => h) (Or.inl ⟨by rfl, ?ya214⟩) (fun _ => by assumption) ?ra214
        case ya214 => (intro w _; go_simp; first | done | (with_reducible rfl))
        try simp only [Act.put, List.setIfInBounds_toArray, List.set_cons_zero, List.set_cons_succ]
        refine takeL (i := 18) (oi := { dst := some 71, op := Op.load 3 (Operand.tmp 70), type := 3, pos := "pattern.go:56", after := #[{ on := 17, ground := Ground.data }], guard := none }) (v := ?va215) rfl (by kernel_rfl) (by kernel_rfl) (by kernel_rfl) (by kernel_rfl) rfl (by kernel_rfl) (by kernel_rfl) (fun _ _ _ h => h) (Or.inl ⟨by rfl, ?ya215⟩) (by assumption) ?ra215
        case ya215 => (intro w hSw; (try dsimp only at hSw); go_simp; first | done | (with_reducible rfl))
        try simp only [Act.put, List.setIfInBounds_toArray, List.set_cons_zero, List.set_cons_succ]
        refine readyL (rs := [19]) (by kernel_rfl) (by simp) ?_
        refine (AllReadyL.cons (o := { dst := some 72, op := Op.call { callee := Callee.value (Operand.func 170), args := #[Operand.tmp 53, Operand.tmp 71], argTypes := #[3, 3] }, type := 4, pos := "pattern.go:56", after := #[{ on := 0, ground := Ground.data }, { on := 18, ground := Ground.data }], guard := none }) rfl (fun K hK => ?_) AllReadyL.nil)
        go_simp
        refine (fits_any _ _ _ hcb.1 hcb.2).mono ?_
        rintro e w' ⟨rfl, rfl⟩
        refine hK.out _ _ ⟨r1, r2, x0, x1, x2, x3, p0, p3, dc⟩ (fun hHeld => ?_)
        clear hK K
        try simp only [Act.put, List.setIfInBounds_toArray, List.set_cons_zero, List.set_cons_succ]
        refine takeW (i := 20) (oi := { dst := some 73, op := Op.unOp UnOp.not 4 (Operand.tmp 72), type := 4, pos := "pattern.go:56", after := #[{ on := 19, ground := Ground.data }], guard := none }) (v := ?va216) rfl (by kernel_rfl) (by kernel_rfl) (by kernel_rfl) rfl (fun _ _ _ h => h) (Or.inl ⟨by rfl, ?ya216⟩) (fun _ => by assumption) ?ra216
        case ya216 => (intro w _; go_simp; first | done | (with_reducible rfl))
        try simp only [Act.put, List.setIfInBounds_toArray, List.set_cons_zero, List.set_cons_succ]
        refine doneL (by kernel_rfl) ?_ _
        refine NoPanic.normal ?_
        rw [hf]
        go_wp2_with fail
        go_roundw
        case rel => exact ⟨k + 1, by omega, by go_num, Lib.hid (by rw [HK.out, HSz.out, hf, Bool.true_and]), Lib.hid (below_drew HBr.out)⟩
        case measure => simp [intOf]; omega
    · obtain rfl : k = x.cells.length := by omega
      have HZ : Hid (atZ R x p s = true) := Lib.hid (by rw [HE.out, HK.out, List.drop_of_length_le (by simp)]; rfl)
      go_wp2_with fail
      go_ret
      exact ⟨by rw [HZ.out]; rfl, HBw.out⟩

end Go.Proofs.Ytkfaibdflbdpgaa
