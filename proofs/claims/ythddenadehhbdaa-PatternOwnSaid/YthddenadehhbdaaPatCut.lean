/- The contract of pattern.Cut. -/
import Derived.Test.YthddenadehhbdaaPatL
import Derived.Test.YthddenadehhbdaaHeldL
import Derived.Test.YthddenadehhbdaaTic
namespace Go.Proofs.Ythddenadehhbdaa
open Go.ChangeShapes Go.WideShapes Go.ChangeAt Go.RowKit
set_option linter.unusedVariables false

theorem info_ofP {P : Program} {e : TypeId} {z : Value} {k b : Nat} (h : (P.info? e).map (fun i => (i.zero, i.size, i.bytes)) = some (some z, k, b)) : ∃ i, P.info? e = some i ∧ i.zero = some z ∧ i.size = k ∧ i.bytes = b := by
  cases hh : P.info? e with
  | none => rw [hh] at h; cases h
  | some i =>
    rw [hh] at h
    simp only [Option.map_some, Option.some.injEq, Prod.mk.injEq] at h
    exact ⟨i, rfl, h.1, h.2.1, h.2.2⟩
theorem ints_app (xs ys : List Int) : ints xs ++ ints ys = ints (xs ++ ys) := by simp [ints]
theorem cut_room {R : RulesZ} {s wd ht : Int} {k : Nat} (hw : 1 ≤ R.width ∧ R.width ≤ 8) (hh : 1 ≤ R.height ∧ R.height ≤ 8) (h1 : wd ≤ R.width - s % R.width) (h2 : ht ≤ R.height - s / R.width) (h3 : (k : Int) < ht) :
    0 ≤ (k : Int) * R.width ∧ s % R.width + s / R.width * R.width = s ∧ s + (k : Int) * R.width + wd ≤ R.width * R.height := by
  have e := Int.emod_add_mul_ediv s R.width
  rw [Int.mul_comm R.width (s / R.width)] at e
  have c1 : (s / R.width + (k : Int) + 1) * R.width ≤ R.height * R.width := Int.mul_le_mul_of_nonneg_right (by omega) (by omega)
  rw [Int.add_mul, Int.add_mul, Int.one_mul] at c1
  rw [Int.mul_comm R.width R.height]
  exact ⟨Int.mul_nonneg (by omega) (by omega), e, by omega⟩
def cutErr (R : RulesZ) (p : PosZ) (s wd ht : Int) : Int := if posErr R p ≠ 0 then posErr R p else if s < 0 ∨ (p.cells.length : Int) ≤ s ∨ wd < 1 ∨ ht < 1 ∨ R.width - s % R.width < wd ∨ R.height - s / R.width < ht then 4 else 0
def cutRows (R : RulesZ) (p : PosZ) (s wd : Int) (k : Nat) : List Int := (List.range k).flatMap fun y : Nat => (p.cells.drop (s + (y : Int) * R.width).toNat).take wd.toNat
theorem cut_len (R : RulesZ) (p : PosZ) (s wd : Int) (k : Nat) (h : p.cells.length ≤ 64) : (cutRows R p s wd k).length ≤ k * 64 := by
  induction k with
  | zero => simp [cutRows]
  | succ k ih =>
    have e : cutRows R p s wd (k + 1) = cutRows R p s wd k ++ (p.cells.drop (s + (k : Int) * R.width).toNat).take wd.toNat := by unfold cutRows; rw [List.range_succ, List.flatMap_append]; simp
    rw [e, List.length_append, List.length_take, List.length_drop]
    omega
def CutPost (R : RulesZ) (p : PosZ) (s wd ht : Int) (w : World) (e : Ending) (w' : World) : Prop :=
  (cutErr R p s wd ht ≠ 0 ∧ e = .returned (.tuple #[.agg #[.int .i64 0, .int .i64 0, .slice none 0 0, .int .i64 0], .int .i64 (cutErr R p s wd ht)]) ∧ Below w.heap.size w w') ∨
  (cutErr R p s wd ht = 0 ∧ posErr R p = 0 ∧ ∃ v, e = .returned (.tuple #[.agg #[.int .i64 wd, .int .i64 ht, v, .int .i64 p.turn], .int .i64 0]) ∧ w'.ownsRow w.heap.size 3 1 v (cutRows R p s wd ht.toNat).length (ints (cutRows R p s wd ht.toNat)) ∧ Below w.heap.size w w')
set_option maxRecDepth 100000 in
set_option maxHeartbeats 8000000 in
theorem Cut_any (R : RulesZ) (vp vs ve : Value) (p : PosZ) (vc v0 v1 : Value) (s wd ht : Int) (w : World) (h : RdR w R vp vs ve) (hnm : R.name.size ≤ maxLen) (hp : RdP w p vc v0 v1) :
    Calls Try.prog 18 #[(.agg #[.string R.name, .int .i64 R.width, .int .i64 R.height, vp, vs, .bool R.falls, .bool R.keeps, ve, .int .i64 R.blocked, .int .i64 R.quiet, .int .i64 R.rept]), (.agg #[vc, v0, v1, .int .i64 p.turn, .int .i64 p.quiet]), .int .i64 s, .int .i64 wd, .int .i64 ht] w (CutPost R p s wd ht w) := by
  have HR := Lib.hid h
  have HN := Lib.hid hnm
  have HP := Lib.hid hp
  obtain ⟨ac, cc, rfl, hc1, hc2⟩ := hp.1.form
  unfold maxLen at hc2
  clear h hnm hp
  go_enter Try.func18, Try.ntmps18
  go_upto_region 1 with (fail)
  have B0 : Box (((w.alloc (.cells #[.string R.name, .int .i64 R.width, .int .i64 R.height, vp, vs, .bool R.falls, .bool R.keeps, ve, .int .i64 R.blocked, .int .i64 R.quiet, .int .i64 R.rept] 43)).alloc (.cells #[.slice ac p.cells.length cc, v0, v1, .int .i64 p.turn, .int .i64 p.quiet] 51)).alloc (.cells #[.int .i64 0, .int .i64 0, .slice none 0 0, .int .i64 0] 45)) (w.heap.size) [.string R.name, .int .i64 R.width, .int .i64 R.height, vp, vs, .bool R.falls, .bool R.keeps, ve, .int .i64 R.blocked, .int .i64 R.quiet, .int .i64 R.rept] 43 := (((Box.new' w (w.heap.size) [.string R.name, .int .i64 R.width, .int .i64 R.height, vp, vs, .bool R.falls, .bool R.keeps, ve, .int .i64 R.blocked, .int .i64 R.quiet, .int .i64 R.rept] 43 (by simp <;> omega)).alloc _).alloc _)
  have B1 : Box (((w.alloc (.cells #[.string R.name, .int .i64 R.width, .int .i64 R.height, vp, vs, .bool R.falls, .bool R.keeps, ve, .int .i64 R.blocked, .int .i64 R.quiet, .int .i64 R.rept] 43)).alloc (.cells #[.slice ac p.cells.length cc, v0, v1, .int .i64 p.turn, .int .i64 p.quiet] 51)).alloc (.cells #[.int .i64 0, .int .i64 0, .slice none 0 0, .int .i64 0] 45)) (w.heap.size + 1) [.slice ac p.cells.length cc, v0, v1, .int .i64 p.turn, .int .i64 p.quiet] 51 := ((Box.new' (w.alloc (.cells #[.string R.name, .int .i64 R.width, .int .i64 R.height, vp, vs, .bool R.falls, .bool R.keeps, ve, .int .i64 R.blocked, .int .i64 R.quiet, .int .i64 R.rept] 43)) (w.heap.size + 1) [.slice ac p.cells.length cc, v0, v1, .int .i64 p.turn, .int .i64 p.quiet] 51 (by simp <;> omega)).alloc _)
  have B2 : Box (((w.alloc (.cells #[.string R.name, .int .i64 R.width, .int .i64 R.height, vp, vs, .bool R.falls, .bool R.keeps, ve, .int .i64 R.blocked, .int .i64 R.quiet, .int .i64 R.rept] 43)).alloc (.cells #[.slice ac p.cells.length cc, v0, v1, .int .i64 p.turn, .int .i64 p.quiet] 51)).alloc (.cells #[.int .i64 0, .int .i64 0, .slice none 0 0, .int .i64 0] 45)) (w.heap.size + 1 + 1) [.int .i64 0, .int .i64 0, .slice none 0 0, .int .i64 0] 45 := (Box.new' ((w.alloc (.cells #[.string R.name, .int .i64 R.width, .int .i64 R.height, vp, vs, .bool R.falls, .bool R.keeps, ve, .int .i64 R.blocked, .int .i64 R.quiet, .int .i64 R.rept] 43)).alloc (.cells #[.slice ac p.cells.length cc, v0, v1, .int .i64 p.turn, .int .i64 p.quiet] 51)) (w.heap.size + 1 + 1) [.int .i64 0, .int .i64 0, .slice none 0 0, .int .i64 0] 45 (by simp <;> omega))
  have HB : Hid (Below w.heap.size w (((w.alloc (.cells #[.string R.name, .int .i64 R.width, .int .i64 R.height, vp, vs, .bool R.falls, .bool R.keeps, ve, .int .i64 R.blocked, .int .i64 R.quiet, .int .i64 R.rept] 43)).alloc (.cells #[.slice ac p.cells.length cc, v0, v1, .int .i64 p.turn, .int .i64 p.quiet] 51)).alloc (.cells #[.int .i64 0, .int .i64 0, .slice none 0 0, .int .i64 0] 45))) := Lib.hid ((((Below.refl w.heap.size w).alloc (Nat.le_refl _) _).alloc (by simp <;> omega) _).alloc (by simp <;> omega) _)
  have hz0 : w.heap.size + 1 + 1 < (((w.alloc (.cells #[.string R.name, .int .i64 R.width, .int .i64 R.height, vp, vs, .bool R.falls, .bool R.keeps, ve, .int .i64 R.blocked, .int .i64 R.quiet, .int .i64 R.rept] 43)).alloc (.cells #[.slice ac p.cells.length cc, v0, v1, .int .i64 p.turn, .int .i64 p.quiet] 51)).alloc (.cells #[.int .i64 0, .int .i64 0, .slice none 0 0, .int .i64 0] 45)).heap.size := by simp
  generalize (((w.alloc (.cells #[.string R.name, .int .i64 R.width, .int .i64 R.height, vp, vs, .bool R.falls, .bool R.keeps, ve, .int .i64 R.blocked, .int .i64 R.quiet, .int .i64 R.rept] 43)).alloc (.cells #[.slice ac p.cells.length cc, v0, v1, .int .i64 p.turn, .int .i64 p.quiet] 51)).alloc (.cells #[.int .i64 0, .int .i64 0, .slice none 0 0, .int .i64 0] 45)) = w0 at *
  have HRw := Lib.hid (HR.out.below HB.out (Nat.le_refl _))
  have HPw := Lib.hid (HP.out.below HB.out (Nat.le_refl _))
  have HX0 := Lib.hid B0
  have HX1 := Lib.hid B1
  have HX2 := Lib.hid B2
  clear B0 B1 B2
  refine wp_region_lit ?_
  refine wpList_load_box (by rfl) 43 (.tmp 5) (by rfl) (w.heap.size) (by rfl) HX0.out Try.underlying43 (by rfl) (by kernel_rfl) ?_
  refine wpList_load_box (by rfl) 51 (.tmp 6) (by rfl) (w.heap.size + 1) (by rfl) HX1.out Try.underlying51 (by rfl) (by kernel_rfl) ?_
  go_wp2_with fail
  refine (placeCheck_any R vp vs ve p _ v0 v1 w0 HRw.out HN.out HPw.out).mono ?_
  rintro e w1 ⟨rfl, hb1⟩
  have HL1 := Lib.hid (below_trans HB.out hb1 HB.out.size)
  have HC0 := Lib.hid (HX0.out.stays hb1)
  have HC1 := Lib.hid (HX1.out.stays hb1)
  have HC2 := Lib.hid (HX2.out.stays hb1)
  clear hb1 HX0 HX1 HX2 HRw HPw HB hz0
  by_cases he : posErr R p = 0
  rotate_left
  · have HNE := Lib.hid he
    have HE : Hid (cutErr R p s wd ht = posErr R p) := Lib.hid (by unfold cutErr; rw [if_pos he])
    have he' : (posErr R p != 0) = true := by simpa using he
    clear he
    go_wp2_with (refine wpList_store_box (vs := [.int .i64 0, .int .i64 0, .slice none 0 0, .int .i64 0]) (by rfl) 45 (.tmp 10) (.tmp 20) (by rfl) (w.heap.size + 1 + 1) (by rfl) (by rfl) HC2.out rfl (by kernel_rfl) (by rfl) ?_)
    exact bodyPost_ret (results_box rfl (by rfl) (by rfl) (HC2.out.store rfl) Try.underlying45 (by rfl) (by kernel_rfl)) rfl (.inl ⟨by rw [HE.out]; exact HNE.out, by rw [HE.out]; rfl, below_setCells HL1.out (by omega) 0 _⟩)
  have HPE := Lib.hid he
  obtain ⟨hr, pl, -⟩ := posOk he
  obtain ⟨hw, hh, hn⟩ := rulesOk hr
  have hpl := pos_len he
  have HPL := Lib.hid pl
  rw [he]
  clear he hr pl
  by_cases c1 : s < 0
  · have d1 : decide (s < 0) = true := by simpa using c1
    have HE : Hid (cutErr R p s wd ht = 4) := Lib.hid (by unfold cutErr; rw [if_neg (by simp [HPE.out]), if_pos (.inl c1)])
    go_upto_region 4 with (fail)
    generalize w1 = wq at *
    have Bz0 : Box wq.drew (w.heap.size) [.string R.name, .int .i64 R.width, .int .i64 R.height, vp, vs, .bool R.falls, .bool R.keeps, ve, .int .i64 R.blocked, .int .i64 R.quiet, .int .i64 R.rept] 43 := HC0.out
    have Bz1 : Box wq.drew (w.heap.size + 1) [.slice ac p.cells.length cc, v0, v1, .int .i64 p.turn, .int .i64 p.quiet] 51 := HC1.out
    have Bz2 : Box wq.drew (w.heap.size + 1 + 1) [.int .i64 0, .int .i64 0, .slice none 0 0, .int .i64 0] 45 := HC2.out
    have Lz : Below w.heap.size w wq.drew := below_drew' HL1.out
    refine wp_region_noPanic ?_
    refine beginL (S := (fun w' => w'.cell? ⟨w.heap.size, 1, none⟩ = some (.int .i64 R.width) ∧ w'.cell? ⟨w.heap.size, 2, none⟩ = some (.int .i64 R.height) ∧ w'.cell? ⟨w.heap.size + 1, 0, none⟩ = some (.slice ac p.cells.length cc))) (L := []) (by kernel_rfl) ⟨Bz0.cell 1 rfl, Bz0.cell 2 rfl, Bz1.cell 0 rfl⟩ (fun hHeld => ?_)
    refine takeW (i := 0) (oi := { dst := some 22, op := Op.move (Operand.tmp 2), type := 3, pos := "pattern.go:137", after := #[], guard := none }) (v := ?va981) rfl (by kernel_rfl) (by kernel_rfl) (by kernel_rfl) rfl (fun _ _ _ h => h) (Or.inl ⟨by rfl, ?ya981⟩) (fun _ => by assumption) ?ra981
    case ya981 => (intro w _; go_simp; first | done | (with_reducible rfl))
    try simp only [Act.put, List.setIfInBounds_toArray, List.set_cons_zero, List.set_cons_succ]
    refine takeW (i := 1) (oi := { dst := some 23, op := Op.binOp BinOp.lss 3 (Operand.tmp 22) (Operand.const (Value.int IntKind.i64 0)) 3, type := 4, pos := "pattern.go:137", after := #[{ on := 0, ground := Ground.data }], guard := none }) (v := ?va982) rfl (by kernel_rfl) (by kernel_rfl) (by kernel_rfl) rfl (fun _ _ _ h => h) (Or.inl ⟨by rfl, ?ya982⟩) (fun _ => by assumption) ?ra982
    case ya982 => (intro w _; go_simp; first | done | (with_reducible rfl))
    try simp only [Act.put, List.setIfInBounds_toArray, List.set_cons_zero, List.set_cons_succ]
    refine takeW (i := 2) (oi := { dst := some 24, op := Op.move (Operand.tmp 23), type := 4, pos := "pattern.go:137", after := #[{ on := 1, ground := Ground.data }], guard := none }) (v := ?va983) rfl (by kernel_rfl) (by kernel_rfl) (by kernel_rfl) rfl (fun _ _ _ h => h) (Or.inl ⟨by rfl, ?ya983⟩) (fun _ => by assumption) ?ra983
    case ya983 => (intro w _; go_simp; first | done | (with_reducible rfl))
    try simp only [Act.put, List.setIfInBounds_toArray, List.set_cons_zero, List.set_cons_succ]
    refine takeW (i := 3) (oi := { dst := some 25, op := Op.move (Operand.tmp 2), type := 3, pos := "pattern.go:137", after := #[{ on := 2, ground := Ground.guard }], guard := some (2, false) }) (v := undef) rfl (by kernel_rfl) (by kernel_rfl) (by kernel_rfl) rfl (fun _ _ _ h => h) (Or.inr ⟨by rfl, rfl⟩) (fun _ => by assumption) ?_
    try simp only [Act.put, List.setIfInBounds_toArray, List.set_cons_zero, List.set_cons_succ]
    refine takeW (i := 4) (oi := { dst := some 26, op := Op.fieldAddr 51 (Operand.tmp 6) 0, type := 0, pos := "pattern.go:137", after := #[{ on := 2, ground := Ground.guard }], guard := some (2, false) }) (v := undef) rfl (by kernel_rfl) (by kernel_rfl) (by kernel_rfl) rfl (fun _ _ _ h => h) (Or.inr ⟨by rfl, rfl⟩) (fun _ => by assumption) ?_
    try simp only [Act.put, List.setIfInBounds_toArray, List.set_cons_zero, List.set_cons_succ]
    refine takeW (i := 5) (oi := { dst := some 27, op := Op.load 28 (Operand.tmp 26), type := 28, pos := "pattern.go:137", after := #[{ on := 4, ground := Ground.data }, { on := 2, ground := Ground.guard }], guard := some (2, false) }) (v := undef) rfl (by kernel_rfl) (by kernel_rfl) (by kernel_rfl) rfl (fun _ _ _ h => h) (Or.inr ⟨by rfl, rfl⟩) (fun _ => by assumption) ?_
    try simp only [Act.put, List.setIfInBounds_toArray, List.set_cons_zero, List.set_cons_succ]
    refine takeW (i := 6) (oi := { dst := some 28, op := Op.call { callee := Callee.builtin Builtin.len, args := #[Operand.tmp 27], argTypes := #[28] }, type := 3, pos := "pattern.go:137", after := #[{ on := 5, ground := Ground.data }, { on := 2, ground := Ground.guard }], guard := some (2, false) }) (v := undef) rfl (by kernel_rfl) (by kernel_rfl) (by kernel_rfl) rfl (fun _ _ _ h => h) (Or.inr ⟨by rfl, rfl⟩) (fun _ => by assumption) ?_
    try simp only [Act.put, List.setIfInBounds_toArray, List.set_cons_zero, List.set_cons_succ]
    refine takeW (i := 7) (oi := { dst := some 29, op := Op.binOp BinOp.geq 3 (Operand.tmp 25) (Operand.tmp 28) 3, type := 4, pos := "pattern.go:137", after := #[{ on := 3, ground := Ground.data }, { on := 6, ground := Ground.data }, { on := 2, ground := Ground.guard }], guard := some (2, false) }) (v := undef) rfl (by kernel_rfl) (by kernel_rfl) (by kernel_rfl) rfl (fun _ _ _ h => h) (Or.inr ⟨by rfl, rfl⟩) (fun _ => by assumption) ?_
    try simp only [Act.put, List.setIfInBounds_toArray, List.set_cons_zero, List.set_cons_succ]
    refine takeW (i := 8) (oi := { dst := some 30, op := Op.pick (Operand.tmp 24) (Operand.const (Value.bool true)) (Operand.tmp 29), type := 4, pos := "pattern.go:137", after := #[{ on := 2, ground := Ground.data }, { on := 7, ground := Ground.data }], guard := none }) (v := ?va989) rfl (by kernel_rfl) (by kernel_rfl) (by kernel_rfl) rfl (fun _ _ _ h => h) (Or.inl ⟨by rfl, ?ya989⟩) (fun _ => by assumption) ?ra989
    case ya989 => (intro w _; go_simp; first | done | (with_reducible rfl))
    try simp only [Act.put, List.setIfInBounds_toArray, List.set_cons_zero, List.set_cons_succ]
    refine takeW (i := 9) (oi := { dst := some 31, op := Op.move (Operand.tmp 30), type := 4, pos := "pattern.go:137", after := #[{ on := 8, ground := Ground.data }, { on := 2, ground := Ground.chain }], guard := none }) (v := ?va990) rfl (by kernel_rfl) (by kernel_rfl) (by kernel_rfl) rfl (fun _ _ _ h => h) (Or.inl ⟨by rfl, ?ya990⟩) (fun _ => by assumption) ?ra990
    case ya990 => (intro w _; go_simp; first | done | (with_reducible rfl))
    try simp only [Act.put, List.setIfInBounds_toArray, List.set_cons_zero, List.set_cons_succ]
    refine takeW (i := 10) (oi := { dst := some 32, op := Op.move (Operand.tmp 3), type := 3, pos := "pattern.go:137", after := #[{ on := 9, ground := Ground.guard }], guard := some (9, false) }) (v := undef) rfl (by kernel_rfl) (by kernel_rfl) (by kernel_rfl) rfl (fun _ _ _ h => h) (Or.inr ⟨by rfl, rfl⟩) (fun _ => by assumption) ?_
    try simp only [Act.put, List.setIfInBounds_toArray, List.set_cons_zero, List.set_cons_succ]
    refine takeW (i := 11) (oi := { dst := some 33, op := Op.binOp BinOp.lss 3 (Operand.tmp 32) (Operand.const (Value.int IntKind.i64 1)) 3, type := 4, pos := "pattern.go:137", after := #[{ on := 10, ground := Ground.data }, { on := 9, ground := Ground.guard }], guard := some (9, false) }) (v := undef) rfl (by kernel_rfl) (by kernel_rfl) (by kernel_rfl) rfl (fun _ _ _ h => h) (Or.inr ⟨by rfl, rfl⟩) (fun _ => by assumption) ?_
    try simp only [Act.put, List.setIfInBounds_toArray, List.set_cons_zero, List.set_cons_succ]
    refine takeW (i := 12) (oi := { dst := some 34, op := Op.pick (Operand.tmp 31) (Operand.const (Value.bool true)) (Operand.tmp 33), type := 4, pos := "pattern.go:137", after := #[{ on := 9, ground := Ground.data }, { on := 11, ground := Ground.data }], guard := none }) (v := ?va993) rfl (by kernel_rfl) (by kernel_rfl) (by kernel_rfl) rfl (fun _ _ _ h => h) (Or.inl ⟨by rfl, ?ya993⟩) (fun _ => by assumption) ?ra993
    case ya993 => (intro w _; go_simp; first | done | (with_reducible rfl))
    try simp only [Act.put, List.setIfInBounds_toArray, List.set_cons_zero, List.set_cons_succ]
    refine takeW (i := 13) (oi := { dst := some 35, op := Op.move (Operand.tmp 34), type := 4, pos := "pattern.go:137", after := #[{ on := 12, ground := Ground.data }, { on := 9, ground := Ground.chain }], guard := none }) (v := ?va994) rfl (by kernel_rfl) (by kernel_rfl) (by kernel_rfl) rfl (fun _ _ _ h => h) (Or.inl ⟨by rfl, ?ya994⟩) (fun _ => by assumption) ?ra994
    case ya994 => (intro w _; go_simp; first | done | (with_reducible rfl))
    try simp only [Act.put, List.setIfInBounds_toArray, List.set_cons_zero, List.set_cons_succ]
    refine takeW (i := 14) (oi := { dst := some 36, op := Op.move (Operand.tmp 4), type := 3, pos := "pattern.go:137", after := #[{ on := 13, ground := Ground.guard }], guard := some (13, false) }) (v := undef) rfl (by kernel_rfl) (by kernel_rfl) (by kernel_rfl) rfl (fun _ _ _ h => h) (Or.inr ⟨by rfl, rfl⟩) (fun _ => by assumption) ?_
    try simp only [Act.put, List.setIfInBounds_toArray, List.set_cons_zero, List.set_cons_succ]
    refine takeW (i := 15) (oi := { dst := some 37, op := Op.binOp BinOp.lss 3 (Operand.tmp 36) (Operand.const (Value.int IntKind.i64 1)) 3, type := 4, pos := "pattern.go:137", after := #[{ on := 14, ground := Ground.data }, { on := 13, ground := Ground.guard }], guard := some (13, false) }) (v := undef) rfl (by kernel_rfl) (by kernel_rfl) (by kernel_rfl) rfl (fun _ _ _ h => h) (Or.inr ⟨by rfl, rfl⟩) (fun _ => by assumption) ?_
    try simp only [Act.put, List.setIfInBounds_toArray, List.set_cons_zero, List.set_cons_succ]
    refine takeW (i := 16) (oi := { dst := some 38, op := Op.pick (Operand.tmp 35) (Operand.const (Value.bool true)) (Operand.tmp 37), type := 4, pos := "pattern.go:137", after := #[{ on := 13, ground := Ground.data }, { on := 15, ground := Ground.data }], guard := none }) (v := ?va997) rfl (by kernel_rfl) (by kernel_rfl) (by kernel_rfl) rfl (fun _ _ _ h => h) (Or.inl ⟨by rfl, ?ya997⟩) (fun _ => by assumption) ?ra997
    case ya997 => (intro w _; go_simp; first | done | (with_reducible rfl))
    try simp only [Act.put, List.setIfInBounds_toArray, List.set_cons_zero, List.set_cons_succ]
    refine takeW (i := 17) (oi := { dst := some 39, op := Op.move (Operand.tmp 38), type := 4, pos := "pattern.go:137", after := #[{ on := 16, ground := Ground.data }, { on := 13, ground := Ground.chain }], guard := none }) (v := ?va998) rfl (by kernel_rfl) (by kernel_rfl) (by kernel_rfl) rfl (fun _ _ _ h => h) (Or.inl ⟨by rfl, ?ya998⟩) (fun _ => by assumption) ?ra998
    case ya998 => (intro w _; go_simp; first | done | (with_reducible rfl))
    try simp only [Act.put, List.setIfInBounds_toArray, List.set_cons_zero, List.set_cons_succ]
    refine takeW (i := 18) (oi := { dst := some 40, op := Op.move (Operand.tmp 3), type := 3, pos := "pattern.go:137", after := #[{ on := 17, ground := Ground.guard }], guard := some (17, false) }) (v := undef) rfl (by kernel_rfl) (by kernel_rfl) (by kernel_rfl) rfl (fun _ _ _ h => h) (Or.inr ⟨by rfl, rfl⟩) (fun _ => by assumption) ?_
    try simp only [Act.put, List.setIfInBounds_toArray, List.set_cons_zero, List.set_cons_succ]
    refine takeW (i := 19) (oi := { dst := some 41, op := Op.fieldAddr 43 (Operand.tmp 5) 1, type := 0, pos := "pattern.go:137", after := #[{ on := 17, ground := Ground.guard }], guard := some (17, false) }) (v := undef) rfl (by kernel_rfl) (by kernel_rfl) (by kernel_rfl) rfl (fun _ _ _ h => h) (Or.inr ⟨by rfl, rfl⟩) (fun _ => by assumption) ?_
    try simp only [Act.put, List.setIfInBounds_toArray, List.set_cons_zero, List.set_cons_succ]
    refine takeW (i := 21) (oi := { dst := some 43, op := Op.move (Operand.tmp 2), type := 3, pos := "pattern.go:137", after := #[{ on := 17, ground := Ground.guard }], guard := some (17, false) }) (v := undef) rfl (by kernel_rfl) (by kernel_rfl) (by kernel_rfl) rfl (fun _ _ _ h => h) (Or.inr ⟨by rfl, rfl⟩) (fun _ => by assumption) ?_
    try simp only [Act.put, List.setIfInBounds_toArray, List.set_cons_zero, List.set_cons_succ]
    refine takeW (i := 22) (oi := { dst := some 44, op := Op.fieldAddr 43 (Operand.tmp 5) 1, type := 0, pos := "pattern.go:137", after := #[{ on := 17, ground := Ground.guard }], guard := some (17, false) }) (v := undef) rfl (by kernel_rfl) (by kernel_rfl) (by kernel_rfl) rfl (fun _ _ _ h => h) (Or.inr ⟨by rfl, rfl⟩) (fun _ => by assumption) ?_
    try simp only [Act.put, List.setIfInBounds_toArray, List.set_cons_zero, List.set_cons_succ]
    refine takeW (i := 20) (oi := { dst := some 42, op := Op.load 3 (Operand.tmp 41), type := 3, pos := "pattern.go:137", after := #[{ on := 19, ground := Ground.data }, { on := 17, ground := Ground.guard }], guard := some (17, false) }) (v := undef) rfl (by kernel_rfl) (by kernel_rfl) (by kernel_rfl) rfl (fun _ _ _ h => h) (Or.inr ⟨by rfl, rfl⟩) (fun _ => by assumption) ?_
    try simp only [Act.put, List.setIfInBounds_toArray, List.set_cons_zero, List.set_cons_succ]
    refine takeW (i := 23) (oi := { dst := some 45, op := Op.load 3 (Operand.tmp 44), type := 3, pos := "pattern.go:137", after := #[{ on := 22, ground := Ground.data }, { on := 17, ground := Ground.guard }], guard := some (17, false) }) (v := undef) rfl (by kernel_rfl) (by kernel_rfl) (by kernel_rfl) rfl (fun _ _ _ h => h) (Or.inr ⟨by rfl, rfl⟩) (fun _ => by assumption) ?_
    try simp only [Act.put, List.setIfInBounds_toArray, List.set_cons_zero, List.set_cons_succ]
    refine takeW (i := 24) (oi := { dst := some 46, op := Op.binOp BinOp.rem 3 (Operand.tmp 43) (Operand.tmp 45) 3, type := 3, pos := "pattern.go:137", after := #[{ on := 21, ground := Ground.data }, { on := 23, ground := Ground.data }, { on := 17, ground := Ground.guard }], guard := some (17, false) }) (v := undef) rfl (by kernel_rfl) (by kernel_rfl) (by kernel_rfl) rfl (fun _ _ _ h => h) (Or.inr ⟨by rfl, rfl⟩) (fun _ => by assumption) ?_
    try simp only [Act.put, List.setIfInBounds_toArray, List.set_cons_zero, List.set_cons_succ]
    refine takeW (i := 25) (oi := { dst := some 47, op := Op.binOp BinOp.sub 3 (Operand.tmp 42) (Operand.tmp 46) 3, type := 3, pos := "pattern.go:137", after := #[{ on := 20, ground := Ground.data }, { on := 24, ground := Ground.data }, { on := 17, ground := Ground.guard }], guard := some (17, false) }) (v := undef) rfl (by kernel_rfl) (by kernel_rfl) (by kernel_rfl) rfl (fun _ _ _ h => h) (Or.inr ⟨by rfl, rfl⟩) (fun _ => by assumption) ?_
    try simp only [Act.put, List.setIfInBounds_toArray, List.set_cons_zero, List.set_cons_succ]
    refine takeW (i := 26) (oi := { dst := some 48, op := Op.binOp BinOp.gtr 3 (Operand.tmp 40) (Operand.tmp 47) 3, type := 4, pos := "pattern.go:137", after := #[{ on := 18, ground := Ground.data }, { on := 25, ground := Ground.data }, { on := 17, ground := Ground.guard }], guard := some (17, false) }) (v := undef) rfl (by kernel_rfl) (by kernel_rfl) (by kernel_rfl) rfl (fun _ _ _ h => h) (Or.inr ⟨by rfl, rfl⟩) (fun _ => by assumption) ?_
    try simp only [Act.put, List.setIfInBounds_toArray, List.set_cons_zero, List.set_cons_succ]
    refine takeW (i := 27) (oi := { dst := some 49, op := Op.pick (Operand.tmp 39) (Operand.const (Value.bool true)) (Operand.tmp 48), type := 4, pos := "pattern.go:137", after := #[{ on := 17, ground := Ground.data }, { on := 26, ground := Ground.data }], guard := none }) (v := ?va1008) rfl (by kernel_rfl) (by kernel_rfl) (by kernel_rfl) rfl (fun _ _ _ h => h) (Or.inl ⟨by rfl, ?ya1008⟩) (fun _ => by assumption) ?ra1008
    case ya1008 => (intro w _; go_simp; first | done | (with_reducible rfl))
    try simp only [Act.put, List.setIfInBounds_toArray, List.set_cons_zero, List.set_cons_succ]
    refine takeW (i := 28) (oi := { dst := some 50, op := Op.move (Operand.tmp 49), type := 4, pos := "pattern.go:137", after := #[{ on := 27, ground := Ground.data }, { on := 17, ground := Ground.chain }], guard := none }) (v := ?va1009) rfl (by kernel_rfl) (by kernel_rfl) (by kernel_rfl) rfl (fun _ _ _ h => h) (Or.inl ⟨by rfl, ?ya1009⟩) (fun _ => by assumption) ?ra1009
    case ya1009 => (intro w _; go_simp; first | done | (with_reducible rfl))
    try simp only [Act.put, List.setIfInBounds_toArray, List.set_cons_zero, List.set_cons_succ]
    refine takeW (i := 29) (oi := { dst := some 51, op := Op.move (Operand.tmp 4), type := 3, pos := "pattern.go:137", after := #[{ on := 28, ground := Ground.guard }], guard := some (28, false) }) (v := undef) rfl (by kernel_rfl) (by kernel_rfl) (by kernel_rfl) rfl (fun _ _ _ h => h) (Or.inr ⟨by rfl, rfl⟩) (fun _ => by assumption) ?_
    try simp only [Act.put, List.setIfInBounds_toArray, List.set_cons_zero, List.set_cons_succ]
    refine takeW (i := 30) (oi := { dst := some 52, op := Op.fieldAddr 43 (Operand.tmp 5) 2, type := 0, pos := "pattern.go:137", after := #[{ on := 28, ground := Ground.guard }], guard := some (28, false) }) (v := undef) rfl (by kernel_rfl) (by kernel_rfl) (by kernel_rfl) rfl (fun _ _ _ h => h) (Or.inr ⟨by rfl, rfl⟩) (fun _ => by assumption) ?_
    try simp only [Act.put, List.setIfInBounds_toArray, List.set_cons_zero, List.set_cons_succ]
    refine takeW (i := 32) (oi := { dst := some 54, op := Op.move (Operand.tmp 2), type := 3, pos := "pattern.go:137", after := #[{ on := 28, ground := Ground.guard }], guard := some (28, false) }) (v := undef) rfl (by kernel_rfl) (by kernel_rfl) (by kernel_rfl) rfl (fun _ _ _ h => h) (Or.inr ⟨by rfl, rfl⟩) (fun _ => by assumption) ?_
    try simp only [Act.put, List.setIfInBounds_toArray, List.set_cons_zero, List.set_cons_succ]
    refine takeW (i := 33) (oi := { dst := some 55, op := Op.fieldAddr 43 (Operand.tmp 5) 1, type := 0, pos := "pattern.go:137", after := #[{ on := 28, ground := Ground.guard }], guard := some (28, false) }) (v := undef) rfl (by kernel_rfl) (by kernel_rfl) (by kernel_rfl) rfl (fun _ _ _ h => h) (Or.inr ⟨by rfl, rfl⟩) (fun _ => by assumption) ?_
    try simp only [Act.put, List.setIfInBounds_toArray, List.set_cons_zero, List.set_cons_succ]
    refine takeW (i := 31) (oi := { dst := some 53, op := Op.load 3 (Operand.tmp 52), type := 3, pos := "pattern.go:137", after := #[{ on := 30, ground := Ground.data }, { on := 28, ground := Ground.guard }], guard := some (28, false) }) (v := undef) rfl (by kernel_rfl) (by kernel_rfl) (by kernel_rfl) rfl (fun _ _ _ h => h) (Or.inr ⟨by rfl, rfl⟩) (fun _ => by assumption) ?_
    try simp only [Act.put, List.setIfInBounds_toArray, List.set_cons_zero, List.set_cons_succ]
    refine takeW (i := 34) (oi := { dst := some 56, op := Op.load 3 (Operand.tmp 55), type := 3, pos := "pattern.go:137", after := #[{ on := 33, ground := Ground.data }, { on := 28, ground := Ground.guard }], guard := some (28, false) }) (v := undef) rfl (by kernel_rfl) (by kernel_rfl) (by kernel_rfl) rfl (fun _ _ _ h => h) (Or.inr ⟨by rfl, rfl⟩) (fun _ => by assumption) ?_
    try simp only [Act.put, List.setIfInBounds_toArray, List.set_cons_zero, List.set_cons_succ]
    refine takeW (i := 35) (oi := { dst := some 57, op := Op.binOp BinOp.quo 3 (Operand.tmp 54) (Operand.tmp 56) 3, type := 3, pos := "pattern.go:137", after := #[{ on := 32, ground := Ground.data }, { on := 34, ground := Ground.data }, { on := 28, ground := Ground.guard }], guard := some (28, false) }) (v := undef) rfl (by kernel_rfl) (by kernel_rfl) (by kernel_rfl) rfl (fun _ _ _ h => h) (Or.inr ⟨by rfl, rfl⟩) (fun _ => by assumption) ?_
    try simp only [Act.put, List.setIfInBounds_toArray, List.set_cons_zero, List.set_cons_succ]
    refine takeW (i := 36) (oi := { dst := some 58, op := Op.binOp BinOp.sub 3 (Operand.tmp 53) (Operand.tmp 57) 3, type := 3, pos := "pattern.go:137", after := #[{ on := 31, ground := Ground.data }, { on := 35, ground := Ground.data }, { on := 28, ground := Ground.guard }], guard := some (28, false) }) (v := undef) rfl (by kernel_rfl) (by kernel_rfl) (by kernel_rfl) rfl (fun _ _ _ h => h) (Or.inr ⟨by rfl, rfl⟩) (fun _ => by assumption) ?_
    try simp only [Act.put, List.setIfInBounds_toArray, List.set_cons_zero, List.set_cons_succ]
    refine takeW (i := 37) (oi := { dst := some 59, op := Op.binOp BinOp.gtr 3 (Operand.tmp 51) (Operand.tmp 58) 3, type := 4, pos := "pattern.go:137", after := #[{ on := 29, ground := Ground.data }, { on := 36, ground := Ground.data }, { on := 28, ground := Ground.guard }], guard := some (28, false) }) (v := undef) rfl (by kernel_rfl) (by kernel_rfl) (by kernel_rfl) rfl (fun _ _ _ h => h) (Or.inr ⟨by rfl, rfl⟩) (fun _ => by assumption) ?_
    try simp only [Act.put, List.setIfInBounds_toArray, List.set_cons_zero, List.set_cons_succ]
    refine takeW (i := 38) (oi := { dst := some 60, op := Op.pick (Operand.tmp 50) (Operand.const (Value.bool true)) (Operand.tmp 59), type := 4, pos := "pattern.go:137", after := #[{ on := 28, ground := Ground.data }, { on := 37, ground := Ground.data }], guard := none }) (v := ?va1019) rfl (by kernel_rfl) (by kernel_rfl) (by kernel_rfl) rfl (fun _ _ _ h => h) (Or.inl ⟨by rfl, ?ya1019⟩) (fun _ => by assumption) ?ra1019
    case ya1019 => (intro w _; go_simp; first | done | (with_reducible rfl))
    try simp only [Act.put, List.setIfInBounds_toArray, List.set_cons_zero, List.set_cons_succ]
    refine doneL (by kernel_rfl) ?_ _
    refine NoPanic.normal ?_
    have HB2 := Lib.hid Bz2
    have HLz := Lib.hid Lz
    clear Bz0 Bz1 Bz2 Lz hHeld
    go_wp2_with (refine wpList_store_box (vs := [.int .i64 0, .int .i64 0, .slice none 0 0, .int .i64 0]) (by rfl) 45 (.tmp 10) (.tmp 61) (by rfl) (w.heap.size + 1 + 1) (by rfl) (by rfl) HB2.out rfl (by kernel_rfl) (by rfl) ?_)
    exact bodyPost_ret (results_box rfl (by rfl) (by rfl) (HB2.out.store rfl) Try.underlying45 (by rfl) (by kernel_rfl)) rfl (.inl ⟨by rw [HE.out]; decide, by rw [HE.out]; rfl, below_setCells HLz.out (by omega) 0 _⟩)
  have d1 : decide (s < 0) = false := by simpa using c1
  by_cases c2 : (p.cells.length : Int) ≤ s
  · have d2 : decide ((p.cells.length : Int) ≤ s) = true := by simpa using c2
    have HE : Hid (cutErr R p s wd ht = 4) := Lib.hid (by unfold cutErr; rw [if_neg (by simp [HPE.out]), if_pos (.inr (.inl c2))])
    go_upto_region 4 with (fail)
    generalize w1 = wq at *
    have Bz0 : Box wq.drew (w.heap.size) [.string R.name, .int .i64 R.width, .int .i64 R.height, vp, vs, .bool R.falls, .bool R.keeps, ve, .int .i64 R.blocked, .int .i64 R.quiet, .int .i64 R.rept] 43 := HC0.out
    have Bz1 : Box wq.drew (w.heap.size + 1) [.slice ac p.cells.length cc, v0, v1, .int .i64 p.turn, .int .i64 p.quiet] 51 := HC1.out
    have Bz2 : Box wq.drew (w.heap.size + 1 + 1) [.int .i64 0, .int .i64 0, .slice none 0 0, .int .i64 0] 45 := HC2.out
    have Lz : Below w.heap.size w wq.drew := below_drew' HL1.out
    refine wp_region_noPanic ?_
    refine beginL (S := (fun w' => w'.cell? ⟨w.heap.size, 1, none⟩ = some (.int .i64 R.width) ∧ w'.cell? ⟨w.heap.size, 2, none⟩ = some (.int .i64 R.height) ∧ w'.cell? ⟨w.heap.size + 1, 0, none⟩ = some (.slice ac p.cells.length cc))) (L := []) (by kernel_rfl) ⟨Bz0.cell 1 rfl, Bz0.cell 2 rfl, Bz1.cell 0 rfl⟩ (fun hHeld => ?_)
    refine takeW (i := 0) (oi := { dst := some 22, op := Op.move (Operand.tmp 2), type := 3, pos := "pattern.go:137", after := #[], guard := none }) (v := ?va1080) rfl (by kernel_rfl) (by kernel_rfl) (by kernel_rfl) rfl (fun _ _ _ h => h) (Or.inl ⟨by rfl, ?ya1080⟩) (fun _ => by assumption) ?ra1080
    case ya1080 => (intro w _; go_simp; first | done | (with_reducible rfl))
    try simp only [Act.put, List.setIfInBounds_toArray, List.set_cons_zero, List.set_cons_succ]
    refine takeW (i := 1) (oi := { dst := some 23, op := Op.binOp BinOp.lss 3 (Operand.tmp 22) (Operand.const (Value.int IntKind.i64 0)) 3, type := 4, pos := "pattern.go:137", after := #[{ on := 0, ground := Ground.data }], guard := none }) (v := ?va1081) rfl (by kernel_rfl) (by kernel_rfl) (by kernel_rfl) rfl (fun _ _ _ h => h) (Or.inl ⟨by rfl, ?ya1081⟩) (fun _ => by assumption) ?ra1081
    case ya1081 => (intro w _; go_simp; first | done | (with_reducible rfl))
    try simp only [Act.put, List.setIfInBounds_toArray, List.set_cons_zero, List.set_cons_succ]
    refine takeW (i := 2) (oi := { dst := some 24, op := Op.move (Operand.tmp 23), type := 4, pos := "pattern.go:137", after := #[{ on := 1, ground := Ground.data }], guard := none }) (v := ?va1082) rfl (by kernel_rfl) (by kernel_rfl) (by kernel_rfl) rfl (fun _ _ _ h => h) (Or.inl ⟨by rfl, ?ya1082⟩) (fun _ => by assumption) ?ra1082
    case ya1082 => (intro w _; go_simp; first | done | (with_reducible rfl))
    try simp only [Act.put, List.setIfInBounds_toArray, List.set_cons_zero, List.set_cons_succ]
    refine takeW (i := 3) (oi := { dst := some 25, op := Op.move (Operand.tmp 2), type := 3, pos := "pattern.go:137", after := #[{ on := 2, ground := Ground.guard }], guard := some (2, false) }) (v := ?va1083) rfl (by kernel_rfl) (by kernel_rfl) (by kernel_rfl) rfl (fun _ _ _ h => h) (Or.inl ⟨by rfl, ?ya1083⟩) (fun _ => by assumption) ?ra1083
    case ya1083 => (intro w _; go_simp; first | done | (with_reducible rfl))
    try simp only [Act.put, List.setIfInBounds_toArray, List.set_cons_zero, List.set_cons_succ]
    refine takeW (i := 4) (oi := { dst := some 26, op := Op.fieldAddr 51 (Operand.tmp 6) 0, type := 0, pos := "pattern.go:137", after := #[{ on := 2, ground := Ground.guard }], guard := some (2, false) }) (v := ?va1084) rfl (by kernel_rfl) (by kernel_rfl) (by kernel_rfl) rfl (fun _ _ _ h => h) (Or.inl ⟨by rfl, ?ya1084⟩) (fun _ => by assumption) ?ra1084
    case ya1084 => (intro w _; go_simp; first | done | (with_reducible rfl))
    try simp only [Act.put, List.setIfInBounds_toArray, List.set_cons_zero, List.set_cons_succ]
    refine takeL (i := 5) (oi := { dst := some 27, op := Op.load 28 (Operand.tmp 26), type := 28, pos := "pattern.go:137", after := #[{ on := 4, ground := Ground.data }, { on := 2, ground := Ground.guard }], guard := some (2, false) }) (v := ?va1085) rfl (by kernel_rfl) (by kernel_rfl) (by kernel_rfl) (by kernel_rfl) rfl (by kernel_rfl) (by kernel_rfl) (fun _ _ _ h => h) (Or.inl ⟨by rfl, ?ya1085⟩) (by assumption) ?ra1085
    case ya1085 => (intro w hSw; (try dsimp only at hSw); go_simp; first | done | (with_reducible rfl))
    try simp only [Act.put, List.setIfInBounds_toArray, List.set_cons_zero, List.set_cons_succ]
    refine takeW (i := 6) (oi := { dst := some 28, op := Op.call { callee := Callee.builtin Builtin.len, args := #[Operand.tmp 27], argTypes := #[28] }, type := 3, pos := "pattern.go:137", after := #[{ on := 5, ground := Ground.data }, { on := 2, ground := Ground.guard }], guard := some (2, false) }) (v := ?va1086) rfl (by kernel_rfl) (by kernel_rfl) (by kernel_rfl) rfl (fun _ _ _ h => h) (Or.inl ⟨by rfl, ?ya1086⟩) (fun _ => by assumption) ?ra1086
    case ya1086 => (intro w _; go_simp; first | done | (with_reducible rfl))
    try simp only [Act.put, List.setIfInBounds_toArray, List.set_cons_zero, List.set_cons_succ]
    refine takeW (i := 7) (oi := { dst := some 29, op := Op.binOp BinOp.geq 3 (Operand.tmp 25) (Operand.tmp 28) 3, type := 4, pos := "pattern.go:137", after := #[{ on := 3, ground := Ground.data }, { on := 6, ground := Ground.data }, { on := 2, ground := Ground.guard }], guard := some (2, false) }) (v := ?va1087) rfl (by kernel_rfl) (by kernel_rfl) (by kernel_rfl) rfl (fun _ _ _ h => h) (Or.inl ⟨by rfl, ?ya1087⟩) (fun _ => by assumption) ?ra1087
    case ya1087 => (intro w _; go_simp; first | done | (with_reducible rfl))
    try simp only [Act.put, List.setIfInBounds_toArray, List.set_cons_zero, List.set_cons_succ]
    refine takeW (i := 8) (oi := { dst := some 30, op := Op.pick (Operand.tmp 24) (Operand.const (Value.bool true)) (Operand.tmp 29), type := 4, pos := "pattern.go:137", after := #[{ on := 2, ground := Ground.data }, { on := 7, ground := Ground.data }], guard := none }) (v := ?va1088) rfl (by kernel_rfl) (by kernel_rfl) (by kernel_rfl) rfl (fun _ _ _ h => h) (Or.inl ⟨by rfl, ?ya1088⟩) (fun _ => by assumption) ?ra1088
    case ya1088 => (intro w _; go_simp; first | done | (with_reducible rfl))
    try simp only [Act.put, List.setIfInBounds_toArray, List.set_cons_zero, List.set_cons_succ]
    refine takeW (i := 9) (oi := { dst := some 31, op := Op.move (Operand.tmp 30), type := 4, pos := "pattern.go:137", after := #[{ on := 8, ground := Ground.data }, { on := 2, ground := Ground.chain }], guard := none }) (v := ?va1089) rfl (by kernel_rfl) (by kernel_rfl) (by kernel_rfl) rfl (fun _ _ _ h => h) (Or.inl ⟨by rfl, ?ya1089⟩) (fun _ => by assumption) ?ra1089
    case ya1089 => (intro w _; go_simp; first | done | (with_reducible rfl))
    try simp only [Act.put, List.setIfInBounds_toArray, List.set_cons_zero, List.set_cons_succ]
    refine takeW (i := 10) (oi := { dst := some 32, op := Op.move (Operand.tmp 3), type := 3, pos := "pattern.go:137", after := #[{ on := 9, ground := Ground.guard }], guard := some (9, false) }) (v := undef) rfl (by kernel_rfl) (by kernel_rfl) (by kernel_rfl) rfl (fun _ _ _ h => h) (Or.inr ⟨by rfl, rfl⟩) (fun _ => by assumption) ?_
    try simp only [Act.put, List.setIfInBounds_toArray, List.set_cons_zero, List.set_cons_succ]
    refine takeW (i := 11) (oi := { dst := some 33, op := Op.binOp BinOp.lss 3 (Operand.tmp 32) (Operand.const (Value.int IntKind.i64 1)) 3, type := 4, pos := "pattern.go:137", after := #[{ on := 10, ground := Ground.data }, { on := 9, ground := Ground.guard }], guard := some (9, false) }) (v := undef) rfl (by kernel_rfl) (by kernel_rfl) (by kernel_rfl) rfl (fun _ _ _ h => h) (Or.inr ⟨by rfl, rfl⟩) (fun _ => by assumption) ?_
    try simp only [Act.put, List.setIfInBounds_toArray, List.set_cons_zero, List.set_cons_succ]
    refine takeW (i := 12) (oi := { dst := some 34, op := Op.pick (Operand.tmp 31) (Operand.const (Value.bool true)) (Operand.tmp 33), type := 4, pos := "pattern.go:137", after := #[{ on := 9, ground := Ground.data }, { on := 11, ground := Ground.data }], guard := none }) (v := ?va1092) rfl (by kernel_rfl) (by kernel_rfl) (by kernel_rfl) rfl (fun _ _ _ h => h) (Or.inl ⟨by rfl, ?ya1092⟩) (fun _ => by assumption) ?ra1092
    case ya1092 => (intro w _; go_simp; first | done | (with_reducible rfl))
    try simp only [Act.put, List.setIfInBounds_toArray, List.set_cons_zero, List.set_cons_succ]
    refine takeW (i := 13) (oi := { dst := some 35, op := Op.move (Operand.tmp 34), type := 4, pos := "pattern.go:137", after := #[{ on := 12, ground := Ground.data }, { on := 9, ground := Ground.chain }], guard := none }) (v := ?va1093) rfl (by kernel_rfl) (by kernel_rfl) (by kernel_rfl) rfl (fun _ _ _ h => h) (Or.inl ⟨by rfl, ?ya1093⟩) (fun _ => by assumption) ?ra1093
    case ya1093 => (intro w _; go_simp; first | done | (with_reducible rfl))
    try simp only [Act.put, List.setIfInBounds_toArray, List.set_cons_zero, List.set_cons_succ]
    refine takeW (i := 14) (oi := { dst := some 36, op := Op.move (Operand.tmp 4), type := 3, pos := "pattern.go:137", after := #[{ on := 13, ground := Ground.guard }], guard := some (13, false) }) (v := undef) rfl (by kernel_rfl) (by kernel_rfl) (by kernel_rfl) rfl (fun _ _ _ h => h) (Or.inr ⟨by rfl, rfl⟩) (fun _ => by assumption) ?_
    try simp only [Act.put, List.setIfInBounds_toArray, List.set_cons_zero, List.set_cons_succ]
    refine takeW (i := 15) (oi := { dst := some 37, op := Op.binOp BinOp.lss 3 (Operand.tmp 36) (Operand.const (Value.int IntKind.i64 1)) 3, type := 4, pos := "pattern.go:137", after := #[{ on := 14, ground := Ground.data }, { on := 13, ground := Ground.guard }], guard := some (13, false) }) (v := undef) rfl (by kernel_rfl) (by kernel_rfl) (by kernel_rfl) rfl (fun _ _ _ h => h) (Or.inr ⟨by rfl, rfl⟩) (fun _ => by assumption) ?_
    try simp only [Act.put, List.setIfInBounds_toArray, List.set_cons_zero, List.set_cons_succ]
    refine takeW (i := 16) (oi := { dst := some 38, op := Op.pick (Operand.tmp 35) (Operand.const (Value.bool true)) (Operand.tmp 37), type := 4, pos := "pattern.go:137", after := #[{ on := 13, ground := Ground.data }, { on := 15, ground := Ground.data }], guard := none }) (v := ?va1096) rfl (by kernel_rfl) (by kernel_rfl) (by kernel_rfl) rfl (fun _ _ _ h => h) (Or.inl ⟨by rfl, ?ya1096⟩) (fun _ => by assumption) ?ra1096
    case ya1096 => (intro w _; go_simp; first | done | (with_reducible rfl))
    try simp only [Act.put, List.setIfInBounds_toArray, List.set_cons_zero, List.set_cons_succ]
    refine takeW (i := 17) (oi := { dst := some 39, op := Op.move (Operand.tmp 38), type := 4, pos := "pattern.go:137", after := #[{ on := 16, ground := Ground.data }, { on := 13, ground := Ground.chain }], guard := none }) (v := ?va1097) rfl (by kernel_rfl) (by kernel_rfl) (by kernel_rfl) rfl (fun _ _ _ h => h) (Or.inl ⟨by rfl, ?ya1097⟩) (fun _ => by assumption) ?ra1097
    case ya1097 => (intro w _; go_simp; first | done | (with_reducible rfl))
    try simp only [Act.put, List.setIfInBounds_toArray, List.set_cons_zero, List.set_cons_succ]
    refine takeW (i := 18) (oi := { dst := some 40, op := Op.move (Operand.tmp 3), type := 3, pos := "pattern.go:137", after := #[{ on := 17, ground := Ground.guard }], guard := some (17, false) }) (v := undef) rfl (by kernel_rfl) (by kernel_rfl) (by kernel_rfl) rfl (fun _ _ _ h => h) (Or.inr ⟨by rfl, rfl⟩) (fun _ => by assumption) ?_
    try simp only [Act.put, List.setIfInBounds_toArray, List.set_cons_zero, List.set_cons_succ]
    refine takeW (i := 19) (oi := { dst := some 41, op := Op.fieldAddr 43 (Operand.tmp 5) 1, type := 0, pos := "pattern.go:137", after := #[{ on := 17, ground := Ground.guard }], guard := some (17, false) }) (v := undef) rfl (by kernel_rfl) (by kernel_rfl) (by kernel_rfl) rfl (fun _ _ _ h => h) (Or.inr ⟨by rfl, rfl⟩) (fun _ => by assumption) ?_
    try simp only [Act.put, List.setIfInBounds_toArray, List.set_cons_zero, List.set_cons_succ]
    refine takeW (i := 21) (oi := { dst := some 43, op := Op.move (Operand.tmp 2), type := 3, pos := "pattern.go:137", after := #[{ on := 17, ground := Ground.guard }], guard := some (17, false) }) (v := undef) rfl (by kernel_rfl) (by kernel_rfl) (by kernel_rfl) rfl (fun _ _ _ h => h) (Or.inr ⟨by rfl, rfl⟩) (fun _ => by assumption) ?_
    try simp only [Act.put, List.setIfInBounds_toArray, List.set_cons_zero, List.set_cons_succ]
    refine takeW (i := 22) (oi := { dst := some 44, op := Op.fieldAddr 43 (Operand.tmp 5) 1, type := 0, pos := "pattern.go:137", after := #[{ on := 17, ground := Ground.guard }], guard := some (17, false) }) (v := undef) rfl (by kernel_rfl) (by kernel_rfl) (by kernel_rfl) rfl (fun _ _ _ h => h) (Or.inr ⟨by rfl, rfl⟩) (fun _ => by assumption) ?_
    try simp only [Act.put, List.setIfInBounds_toArray, List.set_cons_zero, List.set_cons_succ]
    refine takeW (i := 20) (oi := { dst := some 42, op := Op.load 3 (Operand.tmp 41), type := 3, pos := "pattern.go:137", after := #[{ on := 19, ground := Ground.data }, { on := 17, ground := Ground.guard }], guard := some (17, false) }) (v := undef) rfl (by kernel_rfl) (by kernel_rfl) (by kernel_rfl) rfl (fun _ _ _ h => h) (Or.inr ⟨by rfl, rfl⟩) (fun _ => by assumption) ?_
    try simp only [Act.put, List.setIfInBounds_toArray, List.set_cons_zero, List.set_cons_succ]
    refine takeW (i := 23) (oi := { dst := some 45, op := Op.load 3 (Operand.tmp 44), type := 3, pos := "pattern.go:137", after := #[{ on := 22, ground := Ground.data }, { on := 17, ground := Ground.guard }], guard := some (17, false) }) (v := undef) rfl (by kernel_rfl) (by kernel_rfl) (by kernel_rfl) rfl (fun _ _ _ h => h) (Or.inr ⟨by rfl, rfl⟩) (fun _ => by assumption) ?_
    try simp only [Act.put, List.setIfInBounds_toArray, List.set_cons_zero, List.set_cons_succ]
    refine takeW (i := 24) (oi := { dst := some 46, op := Op.binOp BinOp.rem 3 (Operand.tmp 43) (Operand.tmp 45) 3, type := 3, pos := "pattern.go:137", after := #[{ on := 21, ground := Ground.data }, { on := 23, ground := Ground.data }, { on := 17, ground := Ground.guard }], guard := some (17, false) }) (v := undef) rfl (by kernel_rfl) (by kernel_rfl) (by kernel_rfl) rfl (fun _ _ _ h => h) (Or.inr ⟨by rfl, rfl⟩) (fun _ => by assumption) ?_
    try simp only [Act.put, List.setIfInBounds_toArray, List.set_cons_zero, List.set_cons_succ]
    refine takeW (i := 25) (oi := { dst := some 47, op := Op.binOp BinOp.sub 3 (Operand.tmp 42) (Operand.tmp 46) 3, type := 3, pos := "pattern.go:137", after := #[{ on := 20, ground := Ground.data }, { on := 24, ground := Ground.data }, { on := 17, ground := Ground.guard }], guard := some (17, false) }) (v := undef) rfl (by kernel_rfl) (by kernel_rfl) (by kernel_rfl) rfl (fun _ _ _ h => h) (Or.inr ⟨by rfl, rfl⟩) (fun _ => by assumption) ?_
    try simp only [Act.put, List.setIfInBounds_toArray, List.set_cons_zero, List.set_cons_succ]
    refine takeW (i := 26) (oi := { dst := some 48, op := Op.binOp BinOp.gtr 3 (Operand.tmp 40) (Operand.tmp 47) 3, type := 4, pos := "pattern.go:137", after := #[{ on := 18, ground := Ground.data }, { on := 25, ground := Ground.data }, { on := 17, ground := Ground.guard }], guard := some (17, false) }) (v := undef) rfl (by kernel_rfl) (by kernel_rfl) (by kernel_rfl) rfl (fun _ _ _ h => h) (Or.inr ⟨by rfl, rfl⟩) (fun _ => by assumption) ?_
    try simp only [Act.put, List.setIfInBounds_toArray, List.set_cons_zero, List.set_cons_succ]
    refine takeW (i := 27) (oi := { dst := some 49, op := Op.pick (Operand.tmp 39) (Operand.const (Value.bool true)) (Operand.tmp 48), type := 4, pos := "pattern.go:137", after := #[{ on := 17, ground := Ground.data }, { on := 26, ground := Ground.data }], guard := none }) (v := ?va1107) rfl (by kernel_rfl) (by kernel_rfl) (by kernel_rfl) rfl (fun _ _ _ h => h) (Or.inl ⟨by rfl, ?ya1107⟩) (fun _ => by assumption) ?ra1107
    case ya1107 => (intro w _; go_simp; first | done | (with_reducible rfl))
    try simp only [Act.put, List.setIfInBounds_toArray, List.set_cons_zero, List.set_cons_succ]
    refine takeW (i := 28) (oi := { dst := some 50, op := Op.move (Operand.tmp 49), type := 4, pos := "pattern.go:137", after := #[{ on := 27, ground := Ground.data }, { on := 17, ground := Ground.chain }], guard := none }) (v := ?va1108) rfl (by kernel_rfl) (by kernel_rfl) (by kernel_rfl) rfl (fun _ _ _ h => h) (Or.inl ⟨by rfl, ?ya1108⟩) (fun _ => by assumption) ?ra1108
    case ya1108 => (intro w _; go_simp; first | done | (with_reducible rfl))
    try simp only [Act.put, List.setIfInBounds_toArray, List.set_cons_zero, List.set_cons_succ]
    refine takeW (i := 29) (oi := { dst := some 51, op := Op.move (Operand.tmp 4), type := 3, pos := "pattern.go:137", after := #[{ on := 28, ground := Ground.guard }], guard := some (28, false) }) (v := undef) rfl (by kernel_rfl) (by kernel_rfl) (by kernel_rfl) rfl (fun _ _ _ h => h) (Or.inr ⟨by rfl, rfl⟩) (fun _ => by assumption) ?_
    try simp only [Act.put, List.setIfInBounds_toArray, List.set_cons_zero, List.set_cons_succ]
    refine takeW (i := 30) (oi := { dst := some 52, op := Op.fieldAddr 43 (Operand.tmp 5) 2, type := 0, pos := "pattern.go:137", after := #[{ on := 28, ground := Ground.guard }], guard := some (28, false) }) (v := undef) rfl (by kernel_rfl) (by kernel_rfl) (by kernel_rfl) rfl (fun _ _ _ h => h) (Or.inr ⟨by rfl, rfl⟩) (fun _ => by assumption) ?_
    try simp only [Act.put, List.setIfInBounds_toArray, List.set_cons_zero, List.set_cons_succ]
    refine takeW (i := 32) (oi := { dst := some 54, op := Op.move (Operand.tmp 2), type := 3, pos := "pattern.go:137", after := #[{ on := 28, ground := Ground.guard }], guard := some (28, false) }) (v := undef) rfl (by kernel_rfl) (by kernel_rfl) (by kernel_rfl) rfl (fun _ _ _ h => h) (Or.inr ⟨by rfl, rfl⟩) (fun _ => by assumption) ?_
    try simp only [Act.put, List.setIfInBounds_toArray, List.set_cons_zero, List.set_cons_succ]
    refine takeW (i := 33) (oi := { dst := some 55, op := Op.fieldAddr 43 (Operand.tmp 5) 1, type := 0, pos := "pattern.go:137", after := #[{ on := 28, ground := Ground.guard }], guard := some (28, false) }) (v := undef) rfl (by kernel_rfl) (by kernel_rfl) (by kernel_rfl) rfl (fun _ _ _ h => h) (Or.inr ⟨by rfl, rfl⟩) (fun _ => by assumption) ?_
    try simp only [Act.put, List.setIfInBounds_toArray, List.set_cons_zero, List.set_cons_succ]
    refine takeW (i := 31) (oi := { dst := some 53, op := Op.load 3 (Operand.tmp 52), type := 3, pos := "pattern.go:137", after := #[{ on := 30, ground := Ground.data }, { on := 28, ground := Ground.guard }], guard := some (28, false) }) (v := undef) rfl (by kernel_rfl) (by kernel_rfl) (by kernel_rfl) rfl (fun _ _ _ h => h) (Or.inr ⟨by rfl, rfl⟩) (fun _ => by assumption) ?_
    try simp only [Act.put, List.setIfInBounds_toArray, List.set_cons_zero, List.set_cons_succ]
    refine takeW (i := 34) (oi := { dst := some 56, op := Op.load 3 (Operand.tmp 55), type := 3, pos := "pattern.go:137", after := #[{ on := 33, ground := Ground.data }, { on := 28, ground := Ground.guard }], guard := some (28, false) }) (v := undef) rfl (by kernel_rfl) (by kernel_rfl) (by kernel_rfl) rfl (fun _ _ _ h => h) (Or.inr ⟨by rfl, rfl⟩) (fun _ => by assumption) ?_
    try simp only [Act.put, List.setIfInBounds_toArray, List.set_cons_zero, List.set_cons_succ]
    refine takeW (i := 35) (oi := { dst := some 57, op := Op.binOp BinOp.quo 3 (Operand.tmp 54) (Operand.tmp 56) 3, type := 3, pos := "pattern.go:137", after := #[{ on := 32, ground := Ground.data }, { on := 34, ground := Ground.data }, { on := 28, ground := Ground.guard }], guard := some (28, false) }) (v := undef) rfl (by kernel_rfl) (by kernel_rfl) (by kernel_rfl) rfl (fun _ _ _ h => h) (Or.inr ⟨by rfl, rfl⟩) (fun _ => by assumption) ?_
    try simp only [Act.put, List.setIfInBounds_toArray, List.set_cons_zero, List.set_cons_succ]
    refine takeW (i := 36) (oi := { dst := some 58, op := Op.binOp BinOp.sub 3 (Operand.tmp 53) (Operand.tmp 57) 3, type := 3, pos := "pattern.go:137", after := #[{ on := 31, ground := Ground.data }, { on := 35, ground := Ground.data }, { on := 28, ground := Ground.guard }], guard := some (28, false) }) (v := undef) rfl (by kernel_rfl) (by kernel_rfl) (by kernel_rfl) rfl (fun _ _ _ h => h) (Or.inr ⟨by rfl, rfl⟩) (fun _ => by assumption) ?_
    try simp only [Act.put, List.setIfInBounds_toArray, List.set_cons_zero, List.set_cons_succ]
    refine takeW (i := 37) (oi := { dst := some 59, op := Op.binOp BinOp.gtr 3 (Operand.tmp 51) (Operand.tmp 58) 3, type := 4, pos := "pattern.go:137", after := #[{ on := 29, ground := Ground.data }, { on := 36, ground := Ground.data }, { on := 28, ground := Ground.guard }], guard := some (28, false) }) (v := undef) rfl (by kernel_rfl) (by kernel_rfl) (by kernel_rfl) rfl (fun _ _ _ h => h) (Or.inr ⟨by rfl, rfl⟩) (fun _ => by assumption) ?_
    try simp only [Act.put, List.setIfInBounds_toArray, List.set_cons_zero, List.set_cons_succ]
    refine takeW (i := 38) (oi := { dst := some 60, op := Op.pick (Operand.tmp 50) (Operand.const (Value.bool true)) (Operand.tmp 59), type := 4, pos := "pattern.go:137", after := #[{ on := 28, ground := Ground.data }, { on := 37, ground := Ground.data }], guard := none }) (v := ?va1118) rfl (by kernel_rfl) (by kernel_rfl) (by kernel_rfl) rfl (fun _ _ _ h => h) (Or.inl ⟨by rfl, ?ya1118⟩) (fun _ => by assumption) ?ra1118
    case ya1118 => (intro w _; go_simp; first | done | (with_reducible rfl))
    try simp only [Act.put, List.setIfInBounds_toArray, List.set_cons_zero, List.set_cons_succ]
    refine doneL (by kernel_rfl) ?_ _
    refine NoPanic.normal ?_
    have HB2 := Lib.hid Bz2
    have HLz := Lib.hid Lz
    clear Bz0 Bz1 Bz2 Lz hHeld
    go_wp2_with (refine wpList_store_box (vs := [.int .i64 0, .int .i64 0, .slice none 0 0, .int .i64 0]) (by rfl) 45 (.tmp 10) (.tmp 61) (by rfl) (w.heap.size + 1 + 1) (by rfl) (by rfl) HB2.out rfl (by kernel_rfl) (by rfl) ?_)
    exact bodyPost_ret (results_box rfl (by rfl) (by rfl) (HB2.out.store rfl) Try.underlying45 (by rfl) (by kernel_rfl)) rfl (.inl ⟨by rw [HE.out]; decide, by rw [HE.out]; rfl, below_setCells HLz.out (by omega) 0 _⟩)
  have d2 : decide ((p.cells.length : Int) ≤ s) = false := by simpa using c2
  by_cases c3 : wd < 1
  · have d3 : decide (wd < 1) = true := by simpa using c3
    have HE : Hid (cutErr R p s wd ht = 4) := Lib.hid (by unfold cutErr; rw [if_neg (by simp [HPE.out]), if_pos (.inr (.inr (.inl c3)))])
    go_upto_region 4 with (fail)
    generalize w1 = wq at *
    have Bz0 : Box wq.drew (w.heap.size) [.string R.name, .int .i64 R.width, .int .i64 R.height, vp, vs, .bool R.falls, .bool R.keeps, ve, .int .i64 R.blocked, .int .i64 R.quiet, .int .i64 R.rept] 43 := HC0.out
    have Bz1 : Box wq.drew (w.heap.size + 1) [.slice ac p.cells.length cc, v0, v1, .int .i64 p.turn, .int .i64 p.quiet] 51 := HC1.out
    have Bz2 : Box wq.drew (w.heap.size + 1 + 1) [.int .i64 0, .int .i64 0, .slice none 0 0, .int .i64 0] 45 := HC2.out
    have Lz : Below w.heap.size w wq.drew := below_drew' HL1.out
    refine wp_region_noPanic ?_
    refine beginL (S := (fun w' => w'.cell? ⟨w.heap.size, 1, none⟩ = some (.int .i64 R.width) ∧ w'.cell? ⟨w.heap.size, 2, none⟩ = some (.int .i64 R.height) ∧ w'.cell? ⟨w.heap.size + 1, 0, none⟩ = some (.slice ac p.cells.length cc))) (L := []) (by kernel_rfl) ⟨Bz0.cell 1 rfl, Bz0.cell 2 rfl, Bz1.cell 0 rfl⟩ (fun hHeld => ?_)
    refine takeW (i := 0) (oi := { dst := some 22, op := Op.move (Operand.tmp 2), type := 3, pos := "pattern.go:137", after := #[], guard := none }) (v := ?va1179) rfl (by kernel_rfl) (by kernel_rfl) (by kernel_rfl) rfl (fun _ _ _ h => h) (Or.inl ⟨by rfl, ?ya1179⟩) (fun _ => by assumption) ?ra1179
    case ya1179 => (intro w _; go_simp; first | done | (with_reducible rfl))
    try simp only [Act.put, List.setIfInBounds_toArray, List.set_cons_zero, List.set_cons_succ]
    refine takeW (i := 1) (oi := { dst := some 23, op := Op.binOp BinOp.lss 3 (Operand.tmp 22) (Operand.const (Value.int IntKind.i64 0)) 3, type := 4, pos := "pattern.go:137", after := #[{ on := 0, ground := Ground.data }], guard := none }) (v := ?va1180) rfl (by kernel_rfl) (by kernel_rfl) (by kernel_rfl) rfl (fun _ _ _ h => h) (Or.inl ⟨by rfl, ?ya1180⟩) (fun _ => by assumption) ?ra1180
    case ya1180 => (intro w _; go_simp; first | done | (with_reducible rfl))
    try simp only [Act.put, List.setIfInBounds_toArray, List.set_cons_zero, List.set_cons_succ]
    refine takeW (i := 2) (oi := { dst := some 24, op := Op.move (Operand.tmp 23), type := 4, pos := "pattern.go:137", after := #[{ on := 1, ground := Ground.data }], guard := none }) (v := ?va1181) rfl (by kernel_rfl) (by kernel_rfl) (by kernel_rfl) rfl (fun _ _ _ h => h) (Or.inl ⟨by rfl, ?ya1181⟩) (fun _ => by assumption) ?ra1181
    case ya1181 => (intro w _; go_simp; first | done | (with_reducible rfl))
    try simp only [Act.put, List.setIfInBounds_toArray, List.set_cons_zero, List.set_cons_succ]
    refine takeW (i := 3) (oi := { dst := some 25, op := Op.move (Operand.tmp 2), type := 3, pos := "pattern.go:137", after := #[{ on := 2, ground := Ground.guard }], guard := some (2, false) }) (v := ?va1182) rfl (by kernel_rfl) (by kernel_rfl) (by kernel_rfl) rfl (fun _ _ _ h => h) (Or.inl ⟨by rfl, ?ya1182⟩) (fun _ => by assumption) ?ra1182
    case ya1182 => (intro w _; go_simp; first | done | (with_reducible rfl))
    try simp only [Act.put, List.setIfInBounds_toArray, List.set_cons_zero, List.set_cons_succ]
    refine takeW (i := 4) (oi := { dst := some 26, op := Op.fieldAddr 51 (Operand.tmp 6) 0, type := 0, pos := "pattern.go:137", after := #[{ on := 2, ground := Ground.guard }], guard := some (2, false) }) (v := ?va1183) rfl (by kernel_rfl) (by kernel_rfl) (by kernel_rfl) rfl (fun _ _ _ h => h) (Or.inl ⟨by rfl, ?ya1183⟩) (fun _ => by assumption) ?ra1183
    case ya1183 => (intro w _; go_simp; first | done | (with_reducible rfl))
    try simp only [Act.put, List.setIfInBounds_toArray, List.set_cons_zero, List.set_cons_succ]
    refine takeL (i := 5) (oi := { dst := some 27, op := Op.load 28 (Operand.tmp 26), type := 28, pos := "pattern.go:137", after := #[{ on := 4, ground := Ground.data }, { on := 2, ground := Ground.guard }], guard := some (2, false) }) (v := ?va1184) rfl (by kernel_rfl) (by kernel_rfl) (by kernel_rfl) (by kernel_rfl) rfl (by kernel_rfl) (by kernel_rfl) (fun _ _ _ h => h) (Or.inl ⟨by rfl, ?ya1184⟩) (by assumption) ?ra1184
    case ya1184 => (intro w hSw; (try dsimp only at hSw); go_simp; first | done | (with_reducible rfl))
    try simp only [Act.put, List.setIfInBounds_toArray, List.set_cons_zero, List.set_cons_succ]
    refine takeW (i := 6) (oi := { dst := some 28, op := Op.call { callee := Callee.builtin Builtin.len, args := #[Operand.tmp 27], argTypes := #[28] }, type := 3, pos := "pattern.go:137", after := #[{ on := 5, ground := Ground.data }, { on := 2, ground := Ground.guard }], guard := some (2, false) }) (v := ?va1185) rfl (by kernel_rfl) (by kernel_rfl) (by kernel_rfl) rfl (fun _ _ _ h => h) (Or.inl ⟨by rfl, ?ya1185⟩) (fun _ => by assumption) ?ra1185
    case ya1185 => (intro w _; go_simp; first | done | (with_reducible rfl))
    try simp only [Act.put, List.setIfInBounds_toArray, List.set_cons_zero, List.set_cons_succ]
    refine takeW (i := 7) (oi := { dst := some 29, op := Op.binOp BinOp.geq 3 (Operand.tmp 25) (Operand.tmp 28) 3, type := 4, pos := "pattern.go:137", after := #[{ on := 3, ground := Ground.data }, { on := 6, ground := Ground.data }, { on := 2, ground := Ground.guard }], guard := some (2, false) }) (v := ?va1186) rfl (by kernel_rfl) (by kernel_rfl) (by kernel_rfl) rfl (fun _ _ _ h => h) (Or.inl ⟨by rfl, ?ya1186⟩) (fun _ => by assumption) ?ra1186
    case ya1186 => (intro w _; go_simp; first | done | (with_reducible rfl))
    try simp only [Act.put, List.setIfInBounds_toArray, List.set_cons_zero, List.set_cons_succ]
    refine takeW (i := 8) (oi := { dst := some 30, op := Op.pick (Operand.tmp 24) (Operand.const (Value.bool true)) (Operand.tmp 29), type := 4, pos := "pattern.go:137", after := #[{ on := 2, ground := Ground.data }, { on := 7, ground := Ground.data }], guard := none }) (v := ?va1187) rfl (by kernel_rfl) (by kernel_rfl) (by kernel_rfl) rfl (fun _ _ _ h => h) (Or.inl ⟨by rfl, ?ya1187⟩) (fun _ => by assumption) ?ra1187
    case ya1187 => (intro w _; go_simp; first | done | (with_reducible rfl))
    try simp only [Act.put, List.setIfInBounds_toArray, List.set_cons_zero, List.set_cons_succ]
    refine takeW (i := 9) (oi := { dst := some 31, op := Op.move (Operand.tmp 30), type := 4, pos := "pattern.go:137", after := #[{ on := 8, ground := Ground.data }, { on := 2, ground := Ground.chain }], guard := none }) (v := ?va1188) rfl (by kernel_rfl) (by kernel_rfl) (by kernel_rfl) rfl (fun _ _ _ h => h) (Or.inl ⟨by rfl, ?ya1188⟩) (fun _ => by assumption) ?ra1188
    case ya1188 => (intro w _; go_simp; first | done | (with_reducible rfl))
    try simp only [Act.put, List.setIfInBounds_toArray, List.set_cons_zero, List.set_cons_succ]
    refine takeW (i := 10) (oi := { dst := some 32, op := Op.move (Operand.tmp 3), type := 3, pos := "pattern.go:137", after := #[{ on := 9, ground := Ground.guard }], guard := some (9, false) }) (v := ?va1189) rfl (by kernel_rfl) (by kernel_rfl) (by kernel_rfl) rfl (fun _ _ _ h => h) (Or.inl ⟨by rfl, ?ya1189⟩) (fun _ => by assumption) ?ra1189
    case ya1189 => (intro w _; go_simp; first | done | (with_reducible rfl))
    try simp only [Act.put, List.setIfInBounds_toArray, List.set_cons_zero, List.set_cons_succ]
    refine takeW (i := 11) (oi := { dst := some 33, op := Op.binOp BinOp.lss 3 (Operand.tmp 32) (Operand.const (Value.int IntKind.i64 1)) 3, type := 4, pos := "pattern.go:137", after := #[{ on := 10, ground := Ground.data }, { on := 9, ground := Ground.guard }], guard := some (9, false) }) (v := ?va1190) rfl (by kernel_rfl) (by kernel_rfl) (by kernel_rfl) rfl (fun _ _ _ h => h) (Or.inl ⟨by rfl, ?ya1190⟩) (fun _ => by assumption) ?ra1190
    case ya1190 => (intro w _; go_simp; first | done | (with_reducible rfl))
    try simp only [Act.put, List.setIfInBounds_toArray, List.set_cons_zero, List.set_cons_succ]
    refine takeW (i := 12) (oi := { dst := some 34, op := Op.pick (Operand.tmp 31) (Operand.const (Value.bool true)) (Operand.tmp 33), type := 4, pos := "pattern.go:137", after := #[{ on := 9, ground := Ground.data }, { on := 11, ground := Ground.data }], guard := none }) (v := ?va1191) rfl (by kernel_rfl) (by kernel_rfl) (by kernel_rfl) rfl (fun _ _ _ h => h) (Or.inl ⟨by rfl, ?ya1191⟩) (fun _ => by assumption) ?ra1191
    case ya1191 => (intro w _; go_simp; first | done | (with_reducible rfl))
    try simp only [Act.put, List.setIfInBounds_toArray, List.set_cons_zero, List.set_cons_succ]
    refine takeW (i := 13) (oi := { dst := some 35, op := Op.move (Operand.tmp 34), type := 4, pos := "pattern.go:137", after := #[{ on := 12, ground := Ground.data }, { on := 9, ground := Ground.chain }], guard := none }) (v := ?va1192) rfl (by kernel_rfl) (by kernel_rfl) (by kernel_rfl) rfl (fun _ _ _ h => h) (Or.inl ⟨by rfl, ?ya1192⟩) (fun _ => by assumption) ?ra1192
    case ya1192 => (intro w _; go_simp; first | done | (with_reducible rfl))
    try simp only [Act.put, List.setIfInBounds_toArray, List.set_cons_zero, List.set_cons_succ]
    refine takeW (i := 14) (oi := { dst := some 36, op := Op.move (Operand.tmp 4), type := 3, pos := "pattern.go:137", after := #[{ on := 13, ground := Ground.guard }], guard := some (13, false) }) (v := undef) rfl (by kernel_rfl) (by kernel_rfl) (by kernel_rfl) rfl (fun _ _ _ h => h) (Or.inr ⟨by rfl, rfl⟩) (fun _ => by assumption) ?_
    try simp only [Act.put, List.setIfInBounds_toArray, List.set_cons_zero, List.set_cons_succ]
    refine takeW (i := 15) (oi := { dst := some 37, op := Op.binOp BinOp.lss 3 (Operand.tmp 36) (Operand.const (Value.int IntKind.i64 1)) 3, type := 4, pos := "pattern.go:137", after := #[{ on := 14, ground := Ground.data }, { on := 13, ground := Ground.guard }], guard := some (13, false) }) (v := undef) rfl (by kernel_rfl) (by kernel_rfl) (by kernel_rfl) rfl (fun _ _ _ h => h) (Or.inr ⟨by rfl, rfl⟩) (fun _ => by assumption) ?_
    try simp only [Act.put, List.setIfInBounds_toArray, List.set_cons_zero, List.set_cons_succ]
    refine takeW (i := 16) (oi := { dst := some 38, op := Op.pick (Operand.tmp 35) (Operand.const (Value.bool true)) (Operand.tmp 37), type := 4, pos := "pattern.go:137", after := #[{ on := 13, ground := Ground.data }, { on := 15, ground := Ground.data }], guard := none }) (v := ?va1195) rfl (by kernel_rfl) (by kernel_rfl) (by kernel_rfl) rfl (fun _ _ _ h => h) (Or.inl ⟨by rfl, ?ya1195⟩) (fun _ => by assumption) ?ra1195
    case ya1195 => (intro w _; go_simp; first | done | (with_reducible rfl))
    try simp only [Act.put, List.setIfInBounds_toArray, List.set_cons_zero, List.set_cons_succ]
    refine takeW (i := 17) (oi := { dst := some 39, op := Op.move (Operand.tmp 38), type := 4, pos := "pattern.go:137", after := #[{ on := 16, ground := Ground.data }, { on := 13, ground := Ground.chain }], guard := none }) (v := ?va1196) rfl (by kernel_rfl) (by kernel_rfl) (by kernel_rfl) rfl (fun _ _ _ h => h) (Or.inl ⟨by rfl, ?ya1196⟩) (fun _ => by assumption) ?ra1196
    case ya1196 => (intro w _; go_simp; first | done | (with_reducible rfl))
    try simp only [Act.put, List.setIfInBounds_toArray, List.set_cons_zero, List.set_cons_succ]
    refine takeW (i := 18) (oi := { dst := some 40, op := Op.move (Operand.tmp 3), type := 3, pos := "pattern.go:137", after := #[{ on := 17, ground := Ground.guard }], guard := some (17, false) }) (v := undef) rfl (by kernel_rfl) (by kernel_rfl) (by kernel_rfl) rfl (fun _ _ _ h => h) (Or.inr ⟨by rfl, rfl⟩) (fun _ => by assumption) ?_
    try simp only [Act.put, List.setIfInBounds_toArray, List.set_cons_zero, List.set_cons_succ]
    refine takeW (i := 19) (oi := { dst := some 41, op := Op.fieldAddr 43 (Operand.tmp 5) 1, type := 0, pos := "pattern.go:137", after := #[{ on := 17, ground := Ground.guard }], guard := some (17, false) }) (v := undef) rfl (by kernel_rfl) (by kernel_rfl) (by kernel_rfl) rfl (fun _ _ _ h => h) (Or.inr ⟨by rfl, rfl⟩) (fun _ => by assumption) ?_
    try simp only [Act.put, List.setIfInBounds_toArray, List.set_cons_zero, List.set_cons_succ]
    refine takeW (i := 21) (oi := { dst := some 43, op := Op.move (Operand.tmp 2), type := 3, pos := "pattern.go:137", after := #[{ on := 17, ground := Ground.guard }], guard := some (17, false) }) (v := undef) rfl (by kernel_rfl) (by kernel_rfl) (by kernel_rfl) rfl (fun _ _ _ h => h) (Or.inr ⟨by rfl, rfl⟩) (fun _ => by assumption) ?_
    try simp only [Act.put, List.setIfInBounds_toArray, List.set_cons_zero, List.set_cons_succ]
    refine takeW (i := 22) (oi := { dst := some 44, op := Op.fieldAddr 43 (Operand.tmp 5) 1, type := 0, pos := "pattern.go:137", after := #[{ on := 17, ground := Ground.guard }], guard := some (17, false) }) (v := undef) rfl (by kernel_rfl) (by kernel_rfl) (by kernel_rfl) rfl (fun _ _ _ h => h) (Or.inr ⟨by rfl, rfl⟩) (fun _ => by assumption) ?_
    try simp only [Act.put, List.setIfInBounds_toArray, List.set_cons_zero, List.set_cons_succ]
    refine takeW (i := 20) (oi := { dst := some 42, op := Op.load 3 (Operand.tmp 41), type := 3, pos := "pattern.go:137", after := #[{ on := 19, ground := Ground.data }, { on := 17, ground := Ground.guard }], guard := some (17, false) }) (v := undef) rfl (by kernel_rfl) (by kernel_rfl) (by kernel_rfl) rfl (fun _ _ _ h => h) (Or.inr ⟨by rfl, rfl⟩) (fun _ => by assumption) ?_
    try simp only [Act.put, List.setIfInBounds_toArray, List.set_cons_zero, List.set_cons_succ]
    refine takeW (i := 23) (oi := { dst := some 45, op := Op.load 3 (Operand.tmp 44), type := 3, pos := "pattern.go:137", after := #[{ on := 22, ground := Ground.data }, { on := 17, ground := Ground.guard }], guard := some (17, false) }) (v := undef) rfl (by kernel_rfl) (by kernel_rfl) (by kernel_rfl) rfl (fun _ _ _ h => h) (Or.inr ⟨by rfl, rfl⟩) (fun _ => by assumption) ?_
    try simp only [Act.put, List.setIfInBounds_toArray, List.set_cons_zero, List.set_cons_succ]
    refine takeW (i := 24) (oi := { dst := some 46, op := Op.binOp BinOp.rem 3 (Operand.tmp 43) (Operand.tmp 45) 3, type := 3, pos := "pattern.go:137", after := #[{ on := 21, ground := Ground.data }, { on := 23, ground := Ground.data }, { on := 17, ground := Ground.guard }], guard := some (17, false) }) (v := undef) rfl (by kernel_rfl) (by kernel_rfl) (by kernel_rfl) rfl (fun _ _ _ h => h) (Or.inr ⟨by rfl, rfl⟩) (fun _ => by assumption) ?_
    try simp only [Act.put, List.setIfInBounds_toArray, List.set_cons_zero, List.set_cons_succ]
    refine takeW (i := 25) (oi := { dst := some 47, op := Op.binOp BinOp.sub 3 (Operand.tmp 42) (Operand.tmp 46) 3, type := 3, pos := "pattern.go:137", after := #[{ on := 20, ground := Ground.data }, { on := 24, ground := Ground.data }, { on := 17, ground := Ground.guard }], guard := some (17, false) }) (v := undef) rfl (by kernel_rfl) (by kernel_rfl) (by kernel_rfl) rfl (fun _ _ _ h => h) (Or.inr ⟨by rfl, rfl⟩) (fun _ => by assumption) ?_
    try simp only [Act.put, List.setIfInBounds_toArray, List.set_cons_zero, List.set_cons_succ]
    refine takeW (i := 26) (oi := { dst := some 48, op := Op.binOp BinOp.gtr 3 (Operand.tmp 40) (Operand.tmp 47) 3, type := 4, pos := "pattern.go:137", after := #[{ on := 18, ground := Ground.data }, { on := 25, ground := Ground.data }, { on := 17, ground := Ground.guard }], guard := some (17, false) }) (v := undef) rfl (by kernel_rfl) (by kernel_rfl) (by kernel_rfl) rfl (fun _ _ _ h => h) (Or.inr ⟨by rfl, rfl⟩) (fun _ => by assumption) ?_
    try simp only [Act.put, List.setIfInBounds_toArray, List.set_cons_zero, List.set_cons_succ]
    refine takeW (i := 27) (oi := { dst := some 49, op := Op.pick (Operand.tmp 39) (Operand.const (Value.bool true)) (Operand.tmp 48), type := 4, pos := "pattern.go:137", after := #[{ on := 17, ground := Ground.data }, { on := 26, ground := Ground.data }], guard := none }) (v := ?va1206) rfl (by kernel_rfl) (by kernel_rfl) (by kernel_rfl) rfl (fun _ _ _ h => h) (Or.inl ⟨by rfl, ?ya1206⟩) (fun _ => by assumption) ?ra1206
    case ya1206 => (intro w _; go_simp; first | done | (with_reducible rfl))
    try simp only [Act.put, List.setIfInBounds_toArray, List.set_cons_zero, List.set_cons_succ]
    refine takeW (i := 28) (oi := { dst := some 50, op := Op.move (Operand.tmp 49), type := 4, pos := "pattern.go:137", after := #[{ on := 27, ground := Ground.data }, { on := 17, ground := Ground.chain }], guard := none }) (v := ?va1207) rfl (by kernel_rfl) (by kernel_rfl) (by kernel_rfl) rfl (fun _ _ _ h => h) (Or.inl ⟨by rfl, ?ya1207⟩) (fun _ => by assumption) ?ra1207
    case ya1207 => (intro w _; go_simp; first | done | (with_reducible rfl))
    try simp only [Act.put, List.setIfInBounds_toArray, List.set_cons_zero, List.set_cons_succ]
    refine takeW (i := 29) (oi := { dst := some 51, op := Op.move (Operand.tmp 4), type := 3, pos := "pattern.go:137", after := #[{ on := 28, ground := Ground.guard }], guard := some (28, false) }) (v := undef) rfl (by kernel_rfl) (by kernel_rfl) (by kernel_rfl) rfl (fun _ _ _ h => h) (Or.inr ⟨by rfl, rfl⟩) (fun _ => by assumption) ?_
    try simp only [Act.put, List.setIfInBounds_toArray, List.set_cons_zero, List.set_cons_succ]
    refine takeW (i := 30) (oi := { dst := some 52, op := Op.fieldAddr 43 (Operand.tmp 5) 2, type := 0, pos := "pattern.go:137", after := #[{ on := 28, ground := Ground.guard }], guard := some (28, false) }) (v := undef) rfl (by kernel_rfl) (by kernel_rfl) (by kernel_rfl) rfl (fun _ _ _ h => h) (Or.inr ⟨by rfl, rfl⟩) (fun _ => by assumption) ?_
    try simp only [Act.put, List.setIfInBounds_toArray, List.set_cons_zero, List.set_cons_succ]
    refine takeW (i := 32) (oi := { dst := some 54, op := Op.move (Operand.tmp 2), type := 3, pos := "pattern.go:137", after := #[{ on := 28, ground := Ground.guard }], guard := some (28, false) }) (v := undef) rfl (by kernel_rfl) (by kernel_rfl) (by kernel_rfl) rfl (fun _ _ _ h => h) (Or.inr ⟨by rfl, rfl⟩) (fun _ => by assumption) ?_
    try simp only [Act.put, List.setIfInBounds_toArray, List.set_cons_zero, List.set_cons_succ]
    refine takeW (i := 33) (oi := { dst := some 55, op := Op.fieldAddr 43 (Operand.tmp 5) 1, type := 0, pos := "pattern.go:137", after := #[{ on := 28, ground := Ground.guard }], guard := some (28, false) }) (v := undef) rfl (by kernel_rfl) (by kernel_rfl) (by kernel_rfl) rfl (fun _ _ _ h => h) (Or.inr ⟨by rfl, rfl⟩) (fun _ => by assumption) ?_
    try simp only [Act.put, List.setIfInBounds_toArray, List.set_cons_zero, List.set_cons_succ]
    refine takeW (i := 31) (oi := { dst := some 53, op := Op.load 3 (Operand.tmp 52), type := 3, pos := "pattern.go:137", after := #[{ on := 30, ground := Ground.data }, { on := 28, ground := Ground.guard }], guard := some (28, false) }) (v := undef) rfl (by kernel_rfl) (by kernel_rfl) (by kernel_rfl) rfl (fun _ _ _ h => h) (Or.inr ⟨by rfl, rfl⟩) (fun _ => by assumption) ?_
    try simp only [Act.put, List.setIfInBounds_toArray, List.set_cons_zero, List.set_cons_succ]
    refine takeW (i := 34) (oi := { dst := some 56, op := Op.load 3 (Operand.tmp 55), type := 3, pos := "pattern.go:137", after := #[{ on := 33, ground := Ground.data }, { on := 28, ground := Ground.guard }], guard := some (28, false) }) (v := undef) rfl (by kernel_rfl) (by kernel_rfl) (by kernel_rfl) rfl (fun _ _ _ h => h) (Or.inr ⟨by rfl, rfl⟩) (fun _ => by assumption) ?_
    try simp only [Act.put, List.setIfInBounds_toArray, List.set_cons_zero, List.set_cons_succ]
    refine takeW (i := 35) (oi := { dst := some 57, op := Op.binOp BinOp.quo 3 (Operand.tmp 54) (Operand.tmp 56) 3, type := 3, pos := "pattern.go:137", after := #[{ on := 32, ground := Ground.data }, { on := 34, ground := Ground.data }, { on := 28, ground := Ground.guard }], guard := some (28, false) }) (v := undef) rfl (by kernel_rfl) (by kernel_rfl) (by kernel_rfl) rfl (fun _ _ _ h => h) (Or.inr ⟨by rfl, rfl⟩) (fun _ => by assumption) ?_
    try simp only [Act.put, List.setIfInBounds_toArray, List.set_cons_zero, List.set_cons_succ]
    refine takeW (i := 36) (oi := { dst := some 58, op := Op.binOp BinOp.sub 3 (Operand.tmp 53) (Operand.tmp 57) 3, type := 3, pos := "pattern.go:137", after := #[{ on := 31, ground := Ground.data }, { on := 35, ground := Ground.data }, { on := 28, ground := Ground.guard }], guard := some (28, false) }) (v := undef) rfl (by kernel_rfl) (by kernel_rfl) (by kernel_rfl) rfl (fun _ _ _ h => h) (Or.inr ⟨by rfl, rfl⟩) (fun _ => by assumption) ?_
    try simp only [Act.put, List.setIfInBounds_toArray, List.set_cons_zero, List.set_cons_succ]
    refine takeW (i := 37) (oi := { dst := some 59, op := Op.binOp BinOp.gtr 3 (Operand.tmp 51) (Operand.tmp 58) 3, type := 4, pos := "pattern.go:137", after := #[{ on := 29, ground := Ground.data }, { on := 36, ground := Ground.data }, { on := 28, ground := Ground.guard }], guard := some (28, false) }) (v := undef) rfl (by kernel_rfl) (by kernel_rfl) (by kernel_rfl) rfl (fun _ _ _ h => h) (Or.inr ⟨by rfl, rfl⟩) (fun _ => by assumption) ?_
    try simp only [Act.put, List.setIfInBounds_toArray, List.set_cons_zero, List.set_cons_succ]
    refine takeW (i := 38) (oi := { dst := some 60, op := Op.pick (Operand.tmp 50) (Operand.const (Value.bool true)) (Operand.tmp 59), type := 4, pos := "pattern.go:137", after := #[{ on := 28, ground := Ground.data }, { on := 37, ground := Ground.data }], guard := none }) (v := ?va1217) rfl (by kernel_rfl) (by kernel_rfl) (by kernel_rfl) rfl (fun _ _ _ h => h) (Or.inl ⟨by rfl, ?ya1217⟩) (fun _ => by assumption) ?ra1217
    case ya1217 => (intro w _; go_simp; first | done | (with_reducible rfl))
    try simp only [Act.put, List.setIfInBounds_toArray, List.set_cons_zero, List.set_cons_succ]
    refine doneL (by kernel_rfl) ?_ _
    refine NoPanic.normal ?_
    have HB2 := Lib.hid Bz2
    have HLz := Lib.hid Lz
    clear Bz0 Bz1 Bz2 Lz hHeld
    go_wp2_with (refine wpList_store_box (vs := [.int .i64 0, .int .i64 0, .slice none 0 0, .int .i64 0]) (by rfl) 45 (.tmp 10) (.tmp 61) (by rfl) (w.heap.size + 1 + 1) (by rfl) (by rfl) HB2.out rfl (by kernel_rfl) (by rfl) ?_)
    exact bodyPost_ret (results_box rfl (by rfl) (by rfl) (HB2.out.store rfl) Try.underlying45 (by rfl) (by kernel_rfl)) rfl (.inl ⟨by rw [HE.out]; decide, by rw [HE.out]; rfl, below_setCells HLz.out (by omega) 0 _⟩)
  have d3 : decide (wd < 1) = false := by simpa using c3
  by_cases c4 : ht < 1
  · have d4 : decide (ht < 1) = true := by simpa using c4
    have HE : Hid (cutErr R p s wd ht = 4) := Lib.hid (by unfold cutErr; rw [if_neg (by simp [HPE.out]), if_pos (.inr (.inr (.inr (.inl c4))))])
    go_upto_region 4 with (fail)
    generalize w1 = wq at *
    have Bz0 : Box wq.drew (w.heap.size) [.string R.name, .int .i64 R.width, .int .i64 R.height, vp, vs, .bool R.falls, .bool R.keeps, ve, .int .i64 R.blocked, .int .i64 R.quiet, .int .i64 R.rept] 43 := HC0.out
    have Bz1 : Box wq.drew (w.heap.size + 1) [.slice ac p.cells.length cc, v0, v1, .int .i64 p.turn, .int .i64 p.quiet] 51 := HC1.out
    have Bz2 : Box wq.drew (w.heap.size + 1 + 1) [.int .i64 0, .int .i64 0, .slice none 0 0, .int .i64 0] 45 := HC2.out
    have Lz : Below w.heap.size w wq.drew := below_drew' HL1.out
    refine wp_region_noPanic ?_
    refine beginL (S := (fun w' => w'.cell? ⟨w.heap.size, 1, none⟩ = some (.int .i64 R.width) ∧ w'.cell? ⟨w.heap.size, 2, none⟩ = some (.int .i64 R.height) ∧ w'.cell? ⟨w.heap.size + 1, 0, none⟩ = some (.slice ac p.cells.length cc))) (L := []) (by kernel_rfl) ⟨Bz0.cell 1 rfl, Bz0.cell 2 rfl, Bz1.cell 0 rfl⟩ (fun hHeld => ?_)
    refine takeW (i := 0) (oi := { dst := some 22, op := Op.move (Operand.tmp 2), type := 3, pos := "pattern.go:137", after := #[], guard := none }) (v := ?va1278) rfl (by kernel_rfl) (by kernel_rfl) (by kernel_rfl) rfl (fun _ _ _ h => h) (Or.inl ⟨by rfl, ?ya1278⟩) (fun _ => by assumption) ?ra1278
    case ya1278 => (intro w _; go_simp; first | done | (with_reducible rfl))
    try simp only [Act.put, List.setIfInBounds_toArray, List.set_cons_zero, List.set_cons_succ]
    refine takeW (i := 1) (oi := { dst := some 23, op := Op.binOp BinOp.lss 3 (Operand.tmp 22) (Operand.const (Value.int IntKind.i64 0)) 3, type := 4, pos := "pattern.go:137", after := #[{ on := 0, ground := Ground.data }], guard := none }) (v := ?va1279) rfl (by kernel_rfl) (by kernel_rfl) (by kernel_rfl) rfl (fun _ _ _ h => h) (Or.inl ⟨by rfl, ?ya1279⟩) (fun _ => by assumption) ?ra1279
    case ya1279 => (intro w _; go_simp; first | done | (with_reducible rfl))
    try simp only [Act.put, List.setIfInBounds_toArray, List.set_cons_zero, List.set_cons_succ]
    refine takeW (i := 2) (oi := { dst := some 24, op := Op.move (Operand.tmp 23), type := 4, pos := "pattern.go:137", after := #[{ on := 1, ground := Ground.data }], guard := none }) (v := ?va1280) rfl (by kernel_rfl) (by kernel_rfl) (by kernel_rfl) rfl (fun _ _ _ h => h) (Or.inl ⟨by rfl, ?ya1280⟩) (fun _ => by assumption) ?ra1280
    case ya1280 => (intro w _; go_simp; first | done | (with_reducible rfl))
    try simp only [Act.put, List.setIfInBounds_toArray, List.set_cons_zero, List.set_cons_succ]
    refine takeW (i := 3) (oi := { dst := some 25, op := Op.move (Operand.tmp 2), type := 3, pos := "pattern.go:137", after := #[{ on := 2, ground := Ground.guard }], guard := some (2, false) }) (v := ?va1281) rfl (by kernel_rfl) (by kernel_rfl) (by kernel_rfl) rfl (fun _ _ _ h => h) (Or.inl ⟨by rfl, ?ya1281⟩) (fun _ => by assumption) ?ra1281
    case ya1281 => (intro w _; go_simp; first | done | (with_reducible rfl))
    try simp only [Act.put, List.setIfInBounds_toArray, List.set_cons_zero, List.set_cons_succ]
    refine takeW (i := 4) (oi := { dst := some 26, op := Op.fieldAddr 51 (Operand.tmp 6) 0, type := 0, pos := "pattern.go:137", after := #[{ on := 2, ground := Ground.guard }], guard := some (2, false) }) (v := ?va1282) rfl (by kernel_rfl) (by kernel_rfl) (by kernel_rfl) rfl (fun _ _ _ h => h) (Or.inl ⟨by rfl, ?ya1282⟩) (fun _ => by assumption) ?ra1282
    case ya1282 => (intro w _; go_simp; first | done | (with_reducible rfl))
    try simp only [Act.put, List.setIfInBounds_toArray, List.set_cons_zero, List.set_cons_succ]
    refine takeL (i := 5) (oi := { dst := some 27, op := Op.load 28 (Operand.tmp 26), type := 28, pos := "pattern.go:137", after := #[{ on := 4, ground := Ground.data }, { on := 2, ground := Ground.guard }], guard := some (2, false) }) (v := ?va1283) rfl (by kernel_rfl) (by kernel_rfl) (by kernel_rfl) (by kernel_rfl) rfl (by kernel_rfl) (by kernel_rfl) (fun _ _ _ h => h) (Or.inl ⟨by rfl, ?ya1283⟩) (by assumption) ?ra1283
    case ya1283 => (intro w hSw; (try dsimp only at hSw); go_simp; first | done | (with_reducible rfl))
    try simp only [Act.put, List.setIfInBounds_toArray, List.set_cons_zero, List.set_cons_succ]
    refine takeW (i := 6) (oi := { dst := some 28, op := Op.call { callee := Callee.builtin Builtin.len, args := #[Operand.tmp 27], argTypes := #[28] }, type := 3, pos := "pattern.go:137", after := #[{ on := 5, ground := Ground.data }, { on := 2, ground := Ground.guard }], guard := some (2, false) }) (v := ?va1284) rfl (by kernel_rfl) (by kernel_rfl) (by kernel_rfl) rfl (fun _ _ _ h => h) (Or.inl ⟨by rfl, ?ya1284⟩) (fun _ => by assumption) ?ra1284
    case ya1284 => (intro w _; go_simp; first | done | (with_reducible rfl))
    try simp only [Act.put, List.setIfInBounds_toArray, List.set_cons_zero, List.set_cons_succ]
    refine takeW (i := 7) (oi := { dst := some 29, op := Op.binOp BinOp.geq 3 (Operand.tmp 25) (Operand.tmp 28) 3, type := 4, pos := "pattern.go:137", after := #[{ on := 3, ground := Ground.data }, { on := 6, ground := Ground.data }, { on := 2, ground := Ground.guard }], guard := some (2, false) }) (v := ?va1285) rfl (by kernel_rfl) (by kernel_rfl) (by kernel_rfl) rfl (fun _ _ _ h => h) (Or.inl ⟨by rfl, ?ya1285⟩) (fun _ => by assumption) ?ra1285
    case ya1285 => (intro w _; go_simp; first | done | (with_reducible rfl))
    try simp only [Act.put, List.setIfInBounds_toArray, List.set_cons_zero, List.set_cons_succ]
    refine takeW (i := 8) (oi := { dst := some 30, op := Op.pick (Operand.tmp 24) (Operand.const (Value.bool true)) (Operand.tmp 29), type := 4, pos := "pattern.go:137", after := #[{ on := 2, ground := Ground.data }, { on := 7, ground := Ground.data }], guard := none }) (v := ?va1286) rfl (by kernel_rfl) (by kernel_rfl) (by kernel_rfl) rfl (fun _ _ _ h => h) (Or.inl ⟨by rfl, ?ya1286⟩) (fun _ => by assumption) ?ra1286
    case ya1286 => (intro w _; go_simp; first | done | (with_reducible rfl))
    try simp only [Act.put, List.setIfInBounds_toArray, List.set_cons_zero, List.set_cons_succ]
    refine takeW (i := 9) (oi := { dst := some 31, op := Op.move (Operand.tmp 30), type := 4, pos := "pattern.go:137", after := #[{ on := 8, ground := Ground.data }, { on := 2, ground := Ground.chain }], guard := none }) (v := ?va1287) rfl (by kernel_rfl) (by kernel_rfl) (by kernel_rfl) rfl (fun _ _ _ h => h) (Or.inl ⟨by rfl, ?ya1287⟩) (fun _ => by assumption) ?ra1287
    case ya1287 => (intro w _; go_simp; first | done | (with_reducible rfl))
    try simp only [Act.put, List.setIfInBounds_toArray, List.set_cons_zero, List.set_cons_succ]
    refine takeW (i := 10) (oi := { dst := some 32, op := Op.move (Operand.tmp 3), type := 3, pos := "pattern.go:137", after := #[{ on := 9, ground := Ground.guard }], guard := some (9, false) }) (v := ?va1288) rfl (by kernel_rfl) (by kernel_rfl) (by kernel_rfl) rfl (fun _ _ _ h => h) (Or.inl ⟨by rfl, ?ya1288⟩) (fun _ => by assumption) ?ra1288
    case ya1288 => (intro w _; go_simp; first | done | (with_reducible rfl))
    try simp only [Act.put, List.setIfInBounds_toArray, List.set_cons_zero, List.set_cons_succ]
    refine takeW (i := 11) (oi := { dst := some 33, op := Op.binOp BinOp.lss 3 (Operand.tmp 32) (Operand.const (Value.int IntKind.i64 1)) 3, type := 4, pos := "pattern.go:137", after := #[{ on := 10, ground := Ground.data }, { on := 9, ground := Ground.guard }], guard := some (9, false) }) (v := ?va1289) rfl (by kernel_rfl) (by kernel_rfl) (by kernel_rfl) rfl (fun _ _ _ h => h) (Or.inl ⟨by rfl, ?ya1289⟩) (fun _ => by assumption) ?ra1289
    case ya1289 => (intro w _; go_simp; first | done | (with_reducible rfl))
    try simp only [Act.put, List.setIfInBounds_toArray, List.set_cons_zero, List.set_cons_succ]
    refine takeW (i := 12) (oi := { dst := some 34, op := Op.pick (Operand.tmp 31) (Operand.const (Value.bool true)) (Operand.tmp 33), type := 4, pos := "pattern.go:137", after := #[{ on := 9, ground := Ground.data }, { on := 11, ground := Ground.data }], guard := none }) (v := ?va1290) rfl (by kernel_rfl) (by kernel_rfl) (by kernel_rfl) rfl (fun _ _ _ h => h) (Or.inl ⟨by rfl, ?ya1290⟩) (fun _ => by assumption) ?ra1290
    case ya1290 => (intro w _; go_simp; first | done | (with_reducible rfl))
    try simp only [Act.put, List.setIfInBounds_toArray, List.set_cons_zero, List.set_cons_succ]
    refine takeW (i := 13) (oi := { dst := some 35, op := Op.move (Operand.tmp 34), type := 4, pos := "pattern.go:137", after := #[{ on := 12, ground := Ground.data }, { on := 9, ground := Ground.chain }], guard := none }) (v := ?va1291) rfl (by kernel_rfl) (by kernel_rfl) (by kernel_rfl) rfl (fun _ _ _ h => h) (Or.inl ⟨by rfl, ?ya1291⟩) (fun _ => by assumption) ?ra1291
    case ya1291 => (intro w _; go_simp; first | done | (with_reducible rfl))
    try simp only [Act.put, List.setIfInBounds_toArray, List.set_cons_zero, List.set_cons_succ]
    refine takeW (i := 14) (oi := { dst := some 36, op := Op.move (Operand.tmp 4), type := 3, pos := "pattern.go:137", after := #[{ on := 13, ground := Ground.guard }], guard := some (13, false) }) (v := ?va1292) rfl (by kernel_rfl) (by kernel_rfl) (by kernel_rfl) rfl (fun _ _ _ h => h) (Or.inl ⟨by rfl, ?ya1292⟩) (fun _ => by assumption) ?ra1292
    case ya1292 => (intro w _; go_simp; first | done | (with_reducible rfl))
    try simp only [Act.put, List.setIfInBounds_toArray, List.set_cons_zero, List.set_cons_succ]
    refine takeW (i := 15) (oi := { dst := some 37, op := Op.binOp BinOp.lss 3 (Operand.tmp 36) (Operand.const (Value.int IntKind.i64 1)) 3, type := 4, pos := "pattern.go:137", after := #[{ on := 14, ground := Ground.data }, { on := 13, ground := Ground.guard }], guard := some (13, false) }) (v := ?va1293) rfl (by kernel_rfl) (by kernel_rfl) (by kernel_rfl) rfl (fun _ _ _ h => h) (Or.inl ⟨by rfl, ?ya1293⟩) (fun _ => by assumption) ?ra1293
    case ya1293 => (intro w _; go_simp; first | done | (with_reducible rfl))
    try simp only [Act.put, List.setIfInBounds_toArray, List.set_cons_zero, List.set_cons_succ]
    refine takeW (i := 16) (oi := { dst := some 38, op := Op.pick (Operand.tmp 35) (Operand.const (Value.bool true)) (Operand.tmp 37), type := 4, pos := "pattern.go:137", after := #[{ on := 13, ground := Ground.data }, { on := 15, ground := Ground.data }], guard := none }) (v := ?va1294) rfl (by kernel_rfl) (by kernel_rfl) (by kernel_rfl) rfl (fun _ _ _ h => h) (Or.inl ⟨by rfl, ?ya1294⟩) (fun _ => by assumption) ?ra1294
    case ya1294 => (intro w _; go_simp; first | done | (with_reducible rfl))
    try simp only [Act.put, List.setIfInBounds_toArray, List.set_cons_zero, List.set_cons_succ]
    refine takeW (i := 17) (oi := { dst := some 39, op := Op.move (Operand.tmp 38), type := 4, pos := "pattern.go:137", after := #[{ on := 16, ground := Ground.data }, { on := 13, ground := Ground.chain }], guard := none }) (v := ?va1295) rfl (by kernel_rfl) (by kernel_rfl) (by kernel_rfl) rfl (fun _ _ _ h => h) (Or.inl ⟨by rfl, ?ya1295⟩) (fun _ => by assumption) ?ra1295
    case ya1295 => (intro w _; go_simp; first | done | (with_reducible rfl))
    try simp only [Act.put, List.setIfInBounds_toArray, List.set_cons_zero, List.set_cons_succ]
    refine takeW (i := 18) (oi := { dst := some 40, op := Op.move (Operand.tmp 3), type := 3, pos := "pattern.go:137", after := #[{ on := 17, ground := Ground.guard }], guard := some (17, false) }) (v := undef) rfl (by kernel_rfl) (by kernel_rfl) (by kernel_rfl) rfl (fun _ _ _ h => h) (Or.inr ⟨by rfl, rfl⟩) (fun _ => by assumption) ?_
    try simp only [Act.put, List.setIfInBounds_toArray, List.set_cons_zero, List.set_cons_succ]
    refine takeW (i := 19) (oi := { dst := some 41, op := Op.fieldAddr 43 (Operand.tmp 5) 1, type := 0, pos := "pattern.go:137", after := #[{ on := 17, ground := Ground.guard }], guard := some (17, false) }) (v := undef) rfl (by kernel_rfl) (by kernel_rfl) (by kernel_rfl) rfl (fun _ _ _ h => h) (Or.inr ⟨by rfl, rfl⟩) (fun _ => by assumption) ?_
    try simp only [Act.put, List.setIfInBounds_toArray, List.set_cons_zero, List.set_cons_succ]
    refine takeW (i := 21) (oi := { dst := some 43, op := Op.move (Operand.tmp 2), type := 3, pos := "pattern.go:137", after := #[{ on := 17, ground := Ground.guard }], guard := some (17, false) }) (v := undef) rfl (by kernel_rfl) (by kernel_rfl) (by kernel_rfl) rfl (fun _ _ _ h => h) (Or.inr ⟨by rfl, rfl⟩) (fun _ => by assumption) ?_
    try simp only [Act.put, List.setIfInBounds_toArray, List.set_cons_zero, List.set_cons_succ]
    refine takeW (i := 22) (oi := { dst := some 44, op := Op.fieldAddr 43 (Operand.tmp 5) 1, type := 0, pos := "pattern.go:137", after := #[{ on := 17, ground := Ground.guard }], guard := some (17, false) }) (v := undef) rfl (by kernel_rfl) (by kernel_rfl) (by kernel_rfl) rfl (fun _ _ _ h => h) (Or.inr ⟨by rfl, rfl⟩) (fun _ => by assumption) ?_
    try simp only [Act.put, List.setIfInBounds_toArray, List.set_cons_zero, List.set_cons_succ]
    refine takeW (i := 20) (oi := { dst := some 42, op := Op.load 3 (Operand.tmp 41), type := 3, pos := "pattern.go:137", after := #[{ on := 19, ground := Ground.data }, { on := 17, ground := Ground.guard }], guard := some (17, false) }) (v := undef) rfl (by kernel_rfl) (by kernel_rfl) (by kernel_rfl) rfl (fun _ _ _ h => h) (Or.inr ⟨by rfl, rfl⟩) (fun _ => by assumption) ?_
    try simp only [Act.put, List.setIfInBounds_toArray, List.set_cons_zero, List.set_cons_succ]
    refine takeW (i := 23) (oi := { dst := some 45, op := Op.load 3 (Operand.tmp 44), type := 3, pos := "pattern.go:137", after := #[{ on := 22, ground := Ground.data }, { on := 17, ground := Ground.guard }], guard := some (17, false) }) (v := undef) rfl (by kernel_rfl) (by kernel_rfl) (by kernel_rfl) rfl (fun _ _ _ h => h) (Or.inr ⟨by rfl, rfl⟩) (fun _ => by assumption) ?_
    try simp only [Act.put, List.setIfInBounds_toArray, List.set_cons_zero, List.set_cons_succ]
    refine takeW (i := 24) (oi := { dst := some 46, op := Op.binOp BinOp.rem 3 (Operand.tmp 43) (Operand.tmp 45) 3, type := 3, pos := "pattern.go:137", after := #[{ on := 21, ground := Ground.data }, { on := 23, ground := Ground.data }, { on := 17, ground := Ground.guard }], guard := some (17, false) }) (v := undef) rfl (by kernel_rfl) (by kernel_rfl) (by kernel_rfl) rfl (fun _ _ _ h => h) (Or.inr ⟨by rfl, rfl⟩) (fun _ => by assumption) ?_
    try simp only [Act.put, List.setIfInBounds_toArray, List.set_cons_zero, List.set_cons_succ]
    refine takeW (i := 25) (oi := { dst := some 47, op := Op.binOp BinOp.sub 3 (Operand.tmp 42) (Operand.tmp 46) 3, type := 3, pos := "pattern.go:137", after := #[{ on := 20, ground := Ground.data }, { on := 24, ground := Ground.data }, { on := 17, ground := Ground.guard }], guard := some (17, false) }) (v := undef) rfl (by kernel_rfl) (by kernel_rfl) (by kernel_rfl) rfl (fun _ _ _ h => h) (Or.inr ⟨by rfl, rfl⟩) (fun _ => by assumption) ?_
    try simp only [Act.put, List.setIfInBounds_toArray, List.set_cons_zero, List.set_cons_succ]
    refine takeW (i := 26) (oi := { dst := some 48, op := Op.binOp BinOp.gtr 3 (Operand.tmp 40) (Operand.tmp 47) 3, type := 4, pos := "pattern.go:137", after := #[{ on := 18, ground := Ground.data }, { on := 25, ground := Ground.data }, { on := 17, ground := Ground.guard }], guard := some (17, false) }) (v := undef) rfl (by kernel_rfl) (by kernel_rfl) (by kernel_rfl) rfl (fun _ _ _ h => h) (Or.inr ⟨by rfl, rfl⟩) (fun _ => by assumption) ?_
    try simp only [Act.put, List.setIfInBounds_toArray, List.set_cons_zero, List.set_cons_succ]
    refine takeW (i := 27) (oi := { dst := some 49, op := Op.pick (Operand.tmp 39) (Operand.const (Value.bool true)) (Operand.tmp 48), type := 4, pos := "pattern.go:137", after := #[{ on := 17, ground := Ground.data }, { on := 26, ground := Ground.data }], guard := none }) (v := ?va1305) rfl (by kernel_rfl) (by kernel_rfl) (by kernel_rfl) rfl (fun _ _ _ h => h) (Or.inl ⟨by rfl, ?ya1305⟩) (fun _ => by assumption) ?ra1305
    case ya1305 => (intro w _; go_simp; first | done | (with_reducible rfl))
    try simp only [Act.put, List.setIfInBounds_toArray, List.set_cons_zero, List.set_cons_succ]
    refine takeW (i := 28) (oi := { dst := some 50, op := Op.move (Operand.tmp 49), type := 4, pos := "pattern.go:137", after := #[{ on := 27, ground := Ground.data }, { on := 17, ground := Ground.chain }], guard := none }) (v := ?va1306) rfl (by kernel_rfl) (by kernel_rfl) (by kernel_rfl) rfl (fun _ _ _ h => h) (Or.inl ⟨by rfl, ?ya1306⟩) (fun _ => by assumption) ?ra1306
    case ya1306 => (intro w _; go_simp; first | done | (with_reducible rfl))
    try simp only [Act.put, List.setIfInBounds_toArray, List.set_cons_zero, List.set_cons_succ]
    refine takeW (i := 29) (oi := { dst := some 51, op := Op.move (Operand.tmp 4), type := 3, pos := "pattern.go:137", after := #[{ on := 28, ground := Ground.guard }], guard := some (28, false) }) (v := undef) rfl (by kernel_rfl) (by kernel_rfl) (by kernel_rfl) rfl (fun _ _ _ h => h) (Or.inr ⟨by rfl, rfl⟩) (fun _ => by assumption) ?_
    try simp only [Act.put, List.setIfInBounds_toArray, List.set_cons_zero, List.set_cons_succ]
    refine takeW (i := 30) (oi := { dst := some 52, op := Op.fieldAddr 43 (Operand.tmp 5) 2, type := 0, pos := "pattern.go:137", after := #[{ on := 28, ground := Ground.guard }], guard := some (28, false) }) (v := undef) rfl (by kernel_rfl) (by kernel_rfl) (by kernel_rfl) rfl (fun _ _ _ h => h) (Or.inr ⟨by rfl, rfl⟩) (fun _ => by assumption) ?_
    try simp only [Act.put, List.setIfInBounds_toArray, List.set_cons_zero, List.set_cons_succ]
    refine takeW (i := 32) (oi := { dst := some 54, op := Op.move (Operand.tmp 2), type := 3, pos := "pattern.go:137", after := #[{ on := 28, ground := Ground.guard }], guard := some (28, false) }) (v := undef) rfl (by kernel_rfl) (by kernel_rfl) (by kernel_rfl) rfl (fun _ _ _ h => h) (Or.inr ⟨by rfl, rfl⟩) (fun _ => by assumption) ?_
    try simp only [Act.put, List.setIfInBounds_toArray, List.set_cons_zero, List.set_cons_succ]
    refine takeW (i := 33) (oi := { dst := some 55, op := Op.fieldAddr 43 (Operand.tmp 5) 1, type := 0, pos := "pattern.go:137", after := #[{ on := 28, ground := Ground.guard }], guard := some (28, false) }) (v := undef) rfl (by kernel_rfl) (by kernel_rfl) (by kernel_rfl) rfl (fun _ _ _ h => h) (Or.inr ⟨by rfl, rfl⟩) (fun _ => by assumption) ?_
    try simp only [Act.put, List.setIfInBounds_toArray, List.set_cons_zero, List.set_cons_succ]
    refine takeW (i := 31) (oi := { dst := some 53, op := Op.load 3 (Operand.tmp 52), type := 3, pos := "pattern.go:137", after := #[{ on := 30, ground := Ground.data }, { on := 28, ground := Ground.guard }], guard := some (28, false) }) (v := undef) rfl (by kernel_rfl) (by kernel_rfl) (by kernel_rfl) rfl (fun _ _ _ h => h) (Or.inr ⟨by rfl, rfl⟩) (fun _ => by assumption) ?_
    try simp only [Act.put, List.setIfInBounds_toArray, List.set_cons_zero, List.set_cons_succ]
    refine takeW (i := 34) (oi := { dst := some 56, op := Op.load 3 (Operand.tmp 55), type := 3, pos := "pattern.go:137", after := #[{ on := 33, ground := Ground.data }, { on := 28, ground := Ground.guard }], guard := some (28, false) }) (v := undef) rfl (by kernel_rfl) (by kernel_rfl) (by kernel_rfl) rfl (fun _ _ _ h => h) (Or.inr ⟨by rfl, rfl⟩) (fun _ => by assumption) ?_
    try simp only [Act.put, List.setIfInBounds_toArray, List.set_cons_zero, List.set_cons_succ]
    refine takeW (i := 35) (oi := { dst := some 57, op := Op.binOp BinOp.quo 3 (Operand.tmp 54) (Operand.tmp 56) 3, type := 3, pos := "pattern.go:137", after := #[{ on := 32, ground := Ground.data }, { on := 34, ground := Ground.data }, { on := 28, ground := Ground.guard }], guard := some (28, false) }) (v := undef) rfl (by kernel_rfl) (by kernel_rfl) (by kernel_rfl) rfl (fun _ _ _ h => h) (Or.inr ⟨by rfl, rfl⟩) (fun _ => by assumption) ?_
    try simp only [Act.put, List.setIfInBounds_toArray, List.set_cons_zero, List.set_cons_succ]
    refine takeW (i := 36) (oi := { dst := some 58, op := Op.binOp BinOp.sub 3 (Operand.tmp 53) (Operand.tmp 57) 3, type := 3, pos := "pattern.go:137", after := #[{ on := 31, ground := Ground.data }, { on := 35, ground := Ground.data }, { on := 28, ground := Ground.guard }], guard := some (28, false) }) (v := undef) rfl (by kernel_rfl) (by kernel_rfl) (by kernel_rfl) rfl (fun _ _ _ h => h) (Or.inr ⟨by rfl, rfl⟩) (fun _ => by assumption) ?_
    try simp only [Act.put, List.setIfInBounds_toArray, List.set_cons_zero, List.set_cons_succ]
    refine takeW (i := 37) (oi := { dst := some 59, op := Op.binOp BinOp.gtr 3 (Operand.tmp 51) (Operand.tmp 58) 3, type := 4, pos := "pattern.go:137", after := #[{ on := 29, ground := Ground.data }, { on := 36, ground := Ground.data }, { on := 28, ground := Ground.guard }], guard := some (28, false) }) (v := undef) rfl (by kernel_rfl) (by kernel_rfl) (by kernel_rfl) rfl (fun _ _ _ h => h) (Or.inr ⟨by rfl, rfl⟩) (fun _ => by assumption) ?_
    try simp only [Act.put, List.setIfInBounds_toArray, List.set_cons_zero, List.set_cons_succ]
    refine takeW (i := 38) (oi := { dst := some 60, op := Op.pick (Operand.tmp 50) (Operand.const (Value.bool true)) (Operand.tmp 59), type := 4, pos := "pattern.go:137", after := #[{ on := 28, ground := Ground.data }, { on := 37, ground := Ground.data }], guard := none }) (v := ?va1316) rfl (by kernel_rfl) (by kernel_rfl) (by kernel_rfl) rfl (fun _ _ _ h => h) (Or.inl ⟨by rfl, ?ya1316⟩) (fun _ => by assumption) ?ra1316
    case ya1316 => (intro w _; go_simp; first | done | (with_reducible rfl))
    try simp only [Act.put, List.setIfInBounds_toArray, List.set_cons_zero, List.set_cons_succ]
    refine doneL (by kernel_rfl) ?_ _
    refine NoPanic.normal ?_
    have HB2 := Lib.hid Bz2
    have HLz := Lib.hid Lz
    clear Bz0 Bz1 Bz2 Lz hHeld
    go_wp2_with (refine wpList_store_box (vs := [.int .i64 0, .int .i64 0, .slice none 0 0, .int .i64 0]) (by rfl) 45 (.tmp 10) (.tmp 61) (by rfl) (w.heap.size + 1 + 1) (by rfl) (by rfl) HB2.out rfl (by kernel_rfl) (by rfl) ?_)
    exact bodyPost_ret (results_box rfl (by rfl) (by rfl) (HB2.out.store rfl) Try.underlying45 (by rfl) (by kernel_rfl)) rfl (.inl ⟨by rw [HE.out]; decide, by rw [HE.out]; rfl, below_setCells HLz.out (by omega) 0 _⟩)
  have d4 : decide (ht < 1) = false := by simpa using c4
  have hm0 := Int.emod_nonneg s (show R.width ≠ 0 by omega)
  have hm1 := Int.emod_lt_of_pos s (show 0 < R.width by omega)
  have hq0 : 0 ≤ s / R.width := Int.ediv_nonneg (by omega) (by omega)
  have hq1 : s / R.width ≤ s := Int.ediv_le_self _ (by omega)
  have hmm : Int.tmod s R.width = s % R.width := Int.tmod_eq_emod_of_nonneg (by omega)
  have hdd : Int.tdiv s R.width = s / R.width := Int.tdiv_eq_ediv_of_nonneg (by omega)
  have hwn : ¬ R.width = 0 := by omega
  have hwz : (R.width == 0) = false := by simpa using hwn
  have hwm : IntKind.i64.wrap (s % R.width) = s % R.width := IntWalk.i64_in _ (by omega)
  have hwd : IntKind.i64.wrap (s / R.width) = s / R.width := IntWalk.i64_in _ (by omega)
  have hw5 : IntKind.i64.wrap (R.width - s % R.width) = R.width - s % R.width := IntWalk.i64_in _ (by omega)
  have hw6 : IntKind.i64.wrap (R.height - s / R.width) = R.height - s / R.width := IntWalk.i64_in _ (by omega)
  by_cases c5 : R.width - s % R.width < wd
  · have d5 : decide (R.width - s % R.width < wd) = true := by simpa using c5
    have HE : Hid (cutErr R p s wd ht = 4) := Lib.hid (by unfold cutErr; rw [if_neg (by simp [HPE.out]), if_pos (.inr (.inr (.inr (.inr (.inl c5)))))])
    go_upto_region 4 with (fail)
    generalize w1 = wq at *
    have Bz0 : Box wq.drew (w.heap.size) [.string R.name, .int .i64 R.width, .int .i64 R.height, vp, vs, .bool R.falls, .bool R.keeps, ve, .int .i64 R.blocked, .int .i64 R.quiet, .int .i64 R.rept] 43 := HC0.out
    have Bz1 : Box wq.drew (w.heap.size + 1) [.slice ac p.cells.length cc, v0, v1, .int .i64 p.turn, .int .i64 p.quiet] 51 := HC1.out
    have Bz2 : Box wq.drew (w.heap.size + 1 + 1) [.int .i64 0, .int .i64 0, .slice none 0 0, .int .i64 0] 45 := HC2.out
    have Lz : Below w.heap.size w wq.drew := below_drew' HL1.out
    refine wp_region_noPanic ?_
    refine beginL (S := (fun w' => w'.cell? ⟨w.heap.size, 1, none⟩ = some (.int .i64 R.width) ∧ w'.cell? ⟨w.heap.size, 2, none⟩ = some (.int .i64 R.height) ∧ w'.cell? ⟨w.heap.size + 1, 0, none⟩ = some (.slice ac p.cells.length cc))) (L := []) (by kernel_rfl) ⟨Bz0.cell 1 rfl, Bz0.cell 2 rfl, Bz1.cell 0 rfl⟩ (fun hHeld => ?_)
    refine takeW (i := 0) (oi := { dst := some 22, op := Op.move (Operand.tmp 2), type := 3, pos := "pattern.go:137", after := #[], guard := none }) (v := ?va1377) rfl (by kernel_rfl) (by kernel_rfl) (by kernel_rfl) rfl (fun _ _ _ h => h) (Or.inl ⟨by rfl, ?ya1377⟩) (fun _ => by assumption) ?ra1377
    case ya1377 => (intro w _; go_simp; first | done | (with_reducible rfl))
    try simp only [Act.put, List.setIfInBounds_toArray, List.set_cons_zero, List.set_cons_succ]
    refine takeW (i := 1) (oi := { dst := some 23, op := Op.binOp BinOp.lss 3 (Operand.tmp 22) (Operand.const (Value.int IntKind.i64 0)) 3, type := 4, pos := "pattern.go:137", after := #[{ on := 0, ground := Ground.data }], guard := none }) (v := ?va1378) rfl (by kernel_rfl) (by kernel_rfl) (by kernel_rfl) rfl (fun _ _ _ h => h) (Or.inl ⟨by rfl, ?ya1378⟩) (fun _ => by assumption) ?ra1378
    case ya1378 => (intro w _; go_simp; first | done | (with_reducible rfl))
    try simp only [Act.put, List.setIfInBounds_toArray, List.set_cons_zero, List.set_cons_succ]
    refine takeW (i := 2) (oi := { dst := some 24, op := Op.move (Operand.tmp 23), type := 4, pos := "pattern.go:137", after := #[{ on := 1, ground := Ground.data }], guard := none }) (v := ?va1379) rfl (by kernel_rfl) (by kernel_rfl) (by kernel_rfl) rfl (fun _ _ _ h => h) (Or.inl ⟨by rfl, ?ya1379⟩) (fun _ => by assumption) ?ra1379
    case ya1379 => (intro w _; go_simp; first | done | (with_reducible rfl))
    try simp only [Act.put, List.setIfInBounds_toArray, List.set_cons_zero, List.set_cons_succ]
    refine takeW (i := 3) (oi := { dst := some 25, op := Op.move (Operand.tmp 2), type := 3, pos := "pattern.go:137", after := #[{ on := 2, ground := Ground.guard }], guard := some (2, false) }) (v := ?va1380) rfl (by kernel_rfl) (by kernel_rfl) (by kernel_rfl) rfl (fun _ _ _ h => h) (Or.inl ⟨by rfl, ?ya1380⟩) (fun _ => by assumption) ?ra1380
    case ya1380 => (intro w _; go_simp; first | done | (with_reducible rfl))
    try simp only [Act.put, List.setIfInBounds_toArray, List.set_cons_zero, List.set_cons_succ]
    refine takeW (i := 4) (oi := { dst := some 26, op := Op.fieldAddr 51 (Operand.tmp 6) 0, type := 0, pos := "pattern.go:137", after := #[{ on := 2, ground := Ground.guard }], guard := some (2, false) }) (v := ?va1381) rfl (by kernel_rfl) (by kernel_rfl) (by kernel_rfl) rfl (fun _ _ _ h => h) (Or.inl ⟨by rfl, ?ya1381⟩) (fun _ => by assumption) ?ra1381
    case ya1381 => (intro w _; go_simp; first | done | (with_reducible rfl))
    try simp only [Act.put, List.setIfInBounds_toArray, List.set_cons_zero, List.set_cons_succ]
    refine takeL (i := 5) (oi := { dst := some 27, op := Op.load 28 (Operand.tmp 26), type := 28, pos := "pattern.go:137", after := #[{ on := 4, ground := Ground.data }, { on := 2, ground := Ground.guard }], guard := some (2, false) }) (v := ?va1382) rfl (by kernel_rfl) (by kernel_rfl) (by kernel_rfl) (by kernel_rfl) rfl (by kernel_rfl) (by kernel_rfl) (fun _ _ _ h => h) (Or.inl ⟨by rfl, ?ya1382⟩) (by assumption) ?ra1382
    case ya1382 => (intro w hSw; (try dsimp only at hSw); go_simp; first | done | (with_reducible rfl))
    try simp only [Act.put, List.setIfInBounds_toArray, List.set_cons_zero, List.set_cons_succ]
    refine takeW (i := 6) (oi := { dst := some 28, op := Op.call { callee := Callee.builtin Builtin.len, args := #[Operand.tmp 27], argTypes := #[28] }, type := 3, pos := "pattern.go:137", after := #[{ on := 5, ground := Ground.data }, { on := 2, ground := Ground.guard }], guard := some (2, false) }) (v := ?va1383) rfl (by kernel_rfl) (by kernel_rfl) (by kernel_rfl) rfl (fun _ _ _ h => h) (Or.inl ⟨by rfl, ?ya1383⟩) (fun _ => by assumption) ?ra1383
    case ya1383 => (intro w _; go_simp; first | done | (with_reducible rfl))
    try simp only [Act.put, List.setIfInBounds_toArray, List.set_cons_zero, List.set_cons_succ]
    refine takeW (i := 7) (oi := { dst := some 29, op := Op.binOp BinOp.geq 3 (Operand.tmp 25) (Operand.tmp 28) 3, type := 4, pos := "pattern.go:137", after := #[{ on := 3, ground := Ground.data }, { on := 6, ground := Ground.data }, { on := 2, ground := Ground.guard }], guard := some (2, false) }) (v := ?va1384) rfl (by kernel_rfl) (by kernel_rfl) (by kernel_rfl) rfl (fun _ _ _ h => h) (Or.inl ⟨by rfl, ?ya1384⟩) (fun _ => by assumption) ?ra1384
    case ya1384 => (intro w _; go_simp; first | done | (with_reducible rfl))
    try simp only [Act.put, List.setIfInBounds_toArray, List.set_cons_zero, List.set_cons_succ]
    refine takeW (i := 8) (oi := { dst := some 30, op := Op.pick (Operand.tmp 24) (Operand.const (Value.bool true)) (Operand.tmp 29), type := 4, pos := "pattern.go:137", after := #[{ on := 2, ground := Ground.data }, { on := 7, ground := Ground.data }], guard := none }) (v := ?va1385) rfl (by kernel_rfl) (by kernel_rfl) (by kernel_rfl) rfl (fun _ _ _ h => h) (Or.inl ⟨by rfl, ?ya1385⟩) (fun _ => by assumption) ?ra1385
    case ya1385 => (intro w _; go_simp; first | done | (with_reducible rfl))
    try simp only [Act.put, List.setIfInBounds_toArray, List.set_cons_zero, List.set_cons_succ]
    refine takeW (i := 9) (oi := { dst := some 31, op := Op.move (Operand.tmp 30), type := 4, pos := "pattern.go:137", after := #[{ on := 8, ground := Ground.data }, { on := 2, ground := Ground.chain }], guard := none }) (v := ?va1386) rfl (by kernel_rfl) (by kernel_rfl) (by kernel_rfl) rfl (fun _ _ _ h => h) (Or.inl ⟨by rfl, ?ya1386⟩) (fun _ => by assumption) ?ra1386
    case ya1386 => (intro w _; go_simp; first | done | (with_reducible rfl))
    try simp only [Act.put, List.setIfInBounds_toArray, List.set_cons_zero, List.set_cons_succ]
    refine takeW (i := 10) (oi := { dst := some 32, op := Op.move (Operand.tmp 3), type := 3, pos := "pattern.go:137", after := #[{ on := 9, ground := Ground.guard }], guard := some (9, false) }) (v := ?va1387) rfl (by kernel_rfl) (by kernel_rfl) (by kernel_rfl) rfl (fun _ _ _ h => h) (Or.inl ⟨by rfl, ?ya1387⟩) (fun _ => by assumption) ?ra1387
    case ya1387 => (intro w _; go_simp; first | done | (with_reducible rfl))
    try simp only [Act.put, List.setIfInBounds_toArray, List.set_cons_zero, List.set_cons_succ]
    refine takeW (i := 11) (oi := { dst := some 33, op := Op.binOp BinOp.lss 3 (Operand.tmp 32) (Operand.const (Value.int IntKind.i64 1)) 3, type := 4, pos := "pattern.go:137", after := #[{ on := 10, ground := Ground.data }, { on := 9, ground := Ground.guard }], guard := some (9, false) }) (v := ?va1388) rfl (by kernel_rfl) (by kernel_rfl) (by kernel_rfl) rfl (fun _ _ _ h => h) (Or.inl ⟨by rfl, ?ya1388⟩) (fun _ => by assumption) ?ra1388
    case ya1388 => (intro w _; go_simp; first | done | (with_reducible rfl))
    try simp only [Act.put, List.setIfInBounds_toArray, List.set_cons_zero, List.set_cons_succ]
    refine takeW (i := 12) (oi := { dst := some 34, op := Op.pick (Operand.tmp 31) (Operand.const (Value.bool true)) (Operand.tmp 33), type := 4, pos := "pattern.go:137", after := #[{ on := 9, ground := Ground.data }, { on := 11, ground := Ground.data }], guard := none }) (v := ?va1389) rfl (by kernel_rfl) (by kernel_rfl) (by kernel_rfl) rfl (fun _ _ _ h => h) (Or.inl ⟨by rfl, ?ya1389⟩) (fun _ => by assumption) ?ra1389
    case ya1389 => (intro w _; go_simp; first | done | (with_reducible rfl))
    try simp only [Act.put, List.setIfInBounds_toArray, List.set_cons_zero, List.set_cons_succ]
    refine takeW (i := 13) (oi := { dst := some 35, op := Op.move (Operand.tmp 34), type := 4, pos := "pattern.go:137", after := #[{ on := 12, ground := Ground.data }, { on := 9, ground := Ground.chain }], guard := none }) (v := ?va1390) rfl (by kernel_rfl) (by kernel_rfl) (by kernel_rfl) rfl (fun _ _ _ h => h) (Or.inl ⟨by rfl, ?ya1390⟩) (fun _ => by assumption) ?ra1390
    case ya1390 => (intro w _; go_simp; first | done | (with_reducible rfl))
    try simp only [Act.put, List.setIfInBounds_toArray, List.set_cons_zero, List.set_cons_succ]
    refine takeW (i := 14) (oi := { dst := some 36, op := Op.move (Operand.tmp 4), type := 3, pos := "pattern.go:137", after := #[{ on := 13, ground := Ground.guard }], guard := some (13, false) }) (v := ?va1391) rfl (by kernel_rfl) (by kernel_rfl) (by kernel_rfl) rfl (fun _ _ _ h => h) (Or.inl ⟨by rfl, ?ya1391⟩) (fun _ => by assumption) ?ra1391
    case ya1391 => (intro w _; go_simp; first | done | (with_reducible rfl))
    try simp only [Act.put, List.setIfInBounds_toArray, List.set_cons_zero, List.set_cons_succ]
    refine takeW (i := 15) (oi := { dst := some 37, op := Op.binOp BinOp.lss 3 (Operand.tmp 36) (Operand.const (Value.int IntKind.i64 1)) 3, type := 4, pos := "pattern.go:137", after := #[{ on := 14, ground := Ground.data }, { on := 13, ground := Ground.guard }], guard := some (13, false) }) (v := ?va1392) rfl (by kernel_rfl) (by kernel_rfl) (by kernel_rfl) rfl (fun _ _ _ h => h) (Or.inl ⟨by rfl, ?ya1392⟩) (fun _ => by assumption) ?ra1392
    case ya1392 => (intro w _; go_simp; first | done | (with_reducible rfl))
    try simp only [Act.put, List.setIfInBounds_toArray, List.set_cons_zero, List.set_cons_succ]
    refine takeW (i := 16) (oi := { dst := some 38, op := Op.pick (Operand.tmp 35) (Operand.const (Value.bool true)) (Operand.tmp 37), type := 4, pos := "pattern.go:137", after := #[{ on := 13, ground := Ground.data }, { on := 15, ground := Ground.data }], guard := none }) (v := ?va1393) rfl (by kernel_rfl) (by kernel_rfl) (by kernel_rfl) rfl (fun _ _ _ h => h) (Or.inl ⟨by rfl, ?ya1393⟩) (fun _ => by assumption) ?ra1393
    case ya1393 => (intro w _; go_simp; first | done | (with_reducible rfl))
    try simp only [Act.put, List.setIfInBounds_toArray, List.set_cons_zero, List.set_cons_succ]
    refine takeW (i := 17) (oi := { dst := some 39, op := Op.move (Operand.tmp 38), type := 4, pos := "pattern.go:137", after := #[{ on := 16, ground := Ground.data }, { on := 13, ground := Ground.chain }], guard := none }) (v := ?va1394) rfl (by kernel_rfl) (by kernel_rfl) (by kernel_rfl) rfl (fun _ _ _ h => h) (Or.inl ⟨by rfl, ?ya1394⟩) (fun _ => by assumption) ?ra1394
    case ya1394 => (intro w _; go_simp; first | done | (with_reducible rfl))
    try simp only [Act.put, List.setIfInBounds_toArray, List.set_cons_zero, List.set_cons_succ]
    refine takeW (i := 18) (oi := { dst := some 40, op := Op.move (Operand.tmp 3), type := 3, pos := "pattern.go:137", after := #[{ on := 17, ground := Ground.guard }], guard := some (17, false) }) (v := ?va1395) rfl (by kernel_rfl) (by kernel_rfl) (by kernel_rfl) rfl (fun _ _ _ h => h) (Or.inl ⟨by rfl, ?ya1395⟩) (fun _ => by assumption) ?ra1395
    case ya1395 => (intro w _; go_simp; first | done | (with_reducible rfl))
    try simp only [Act.put, List.setIfInBounds_toArray, List.set_cons_zero, List.set_cons_succ]
    refine takeW (i := 19) (oi := { dst := some 41, op := Op.fieldAddr 43 (Operand.tmp 5) 1, type := 0, pos := "pattern.go:137", after := #[{ on := 17, ground := Ground.guard }], guard := some (17, false) }) (v := ?va1396) rfl (by kernel_rfl) (by kernel_rfl) (by kernel_rfl) rfl (fun _ _ _ h => h) (Or.inl ⟨by rfl, ?ya1396⟩) (fun _ => by assumption) ?ra1396
    case ya1396 => (intro w _; go_simp; first | done | (with_reducible rfl))
    try simp only [Act.put, List.setIfInBounds_toArray, List.set_cons_zero, List.set_cons_succ]
    refine takeW (i := 21) (oi := { dst := some 43, op := Op.move (Operand.tmp 2), type := 3, pos := "pattern.go:137", after := #[{ on := 17, ground := Ground.guard }], guard := some (17, false) }) (v := ?va1397) rfl (by kernel_rfl) (by kernel_rfl) (by kernel_rfl) rfl (fun _ _ _ h => h) (Or.inl ⟨by rfl, ?ya1397⟩) (fun _ => by assumption) ?ra1397
    case ya1397 => (intro w _; go_simp; first | done | (with_reducible rfl))
    try simp only [Act.put, List.setIfInBounds_toArray, List.set_cons_zero, List.set_cons_succ]
    refine takeW (i := 22) (oi := { dst := some 44, op := Op.fieldAddr 43 (Operand.tmp 5) 1, type := 0, pos := "pattern.go:137", after := #[{ on := 17, ground := Ground.guard }], guard := some (17, false) }) (v := ?va1398) rfl (by kernel_rfl) (by kernel_rfl) (by kernel_rfl) rfl (fun _ _ _ h => h) (Or.inl ⟨by rfl, ?ya1398⟩) (fun _ => by assumption) ?ra1398
    case ya1398 => (intro w _; go_simp; first | done | (with_reducible rfl))
    try simp only [Act.put, List.setIfInBounds_toArray, List.set_cons_zero, List.set_cons_succ]
    refine takeL (i := 20) (oi := { dst := some 42, op := Op.load 3 (Operand.tmp 41), type := 3, pos := "pattern.go:137", after := #[{ on := 19, ground := Ground.data }, { on := 17, ground := Ground.guard }], guard := some (17, false) }) (v := ?va1399) rfl (by kernel_rfl) (by kernel_rfl) (by kernel_rfl) (by kernel_rfl) rfl (by kernel_rfl) (by kernel_rfl) (fun _ _ _ h => h) (Or.inl ⟨by rfl, ?ya1399⟩) (by assumption) ?ra1399
    case ya1399 => (intro w hSw; (try dsimp only at hSw); go_simp; first | done | (with_reducible rfl))
    try simp only [Act.put, List.setIfInBounds_toArray, List.set_cons_zero, List.set_cons_succ]
    refine takeL (i := 23) (oi := { dst := some 45, op := Op.load 3 (Operand.tmp 44), type := 3, pos := "pattern.go:137", after := #[{ on := 22, ground := Ground.data }, { on := 17, ground := Ground.guard }], guard := some (17, false) }) (v := ?va1400) rfl (by kernel_rfl) (by kernel_rfl) (by kernel_rfl) (by kernel_rfl) rfl (by kernel_rfl) (by kernel_rfl) (fun _ _ _ h => h) (Or.inl ⟨by rfl, ?ya1400⟩) (by assumption) ?ra1400
    case ya1400 => (intro w hSw; (try dsimp only at hSw); go_simp; first | done | (with_reducible rfl))
    try simp only [Act.put, List.setIfInBounds_toArray, List.set_cons_zero, List.set_cons_succ]
    refine takeW (i := 24) (oi := { dst := some 46, op := Op.binOp BinOp.rem 3 (Operand.tmp 43) (Operand.tmp 45) 3, type := 3, pos := "pattern.go:137", after := #[{ on := 21, ground := Ground.data }, { on := 23, ground := Ground.data }, { on := 17, ground := Ground.guard }], guard := some (17, false) }) (v := ?va1401) rfl (by kernel_rfl) (by kernel_rfl) (by kernel_rfl) rfl (fun _ _ _ h => h) (Or.inl ⟨by rfl, ?ya1401⟩) (fun _ => by assumption) ?ra1401
    case ya1401 => (intro w _; go_simp; first | done | (with_reducible rfl))
    try simp only [Act.put, List.setIfInBounds_toArray, List.set_cons_zero, List.set_cons_succ]
    refine takeW (i := 25) (oi := { dst := some 47, op := Op.binOp BinOp.sub 3 (Operand.tmp 42) (Operand.tmp 46) 3, type := 3, pos := "pattern.go:137", after := #[{ on := 20, ground := Ground.data }, { on := 24, ground := Ground.data }, { on := 17, ground := Ground.guard }], guard := some (17, false) }) (v := ?va1402) rfl (by kernel_rfl) (by kernel_rfl) (by kernel_rfl) rfl (fun _ _ _ h => h) (Or.inl ⟨by rfl, ?ya1402⟩) (fun _ => by assumption) ?ra1402
    case ya1402 => (intro w _; go_simp; first | done | (with_reducible rfl))
    try simp only [Act.put, List.setIfInBounds_toArray, List.set_cons_zero, List.set_cons_succ]
    refine takeW (i := 26) (oi := { dst := some 48, op := Op.binOp BinOp.gtr 3 (Operand.tmp 40) (Operand.tmp 47) 3, type := 4, pos := "pattern.go:137", after := #[{ on := 18, ground := Ground.data }, { on := 25, ground := Ground.data }, { on := 17, ground := Ground.guard }], guard := some (17, false) }) (v := ?va1403) rfl (by kernel_rfl) (by kernel_rfl) (by kernel_rfl) rfl (fun _ _ _ h => h) (Or.inl ⟨by rfl, ?ya1403⟩) (fun _ => by assumption) ?ra1403
    case ya1403 => (intro w _; go_simp; first | done | (with_reducible rfl))
    try simp only [Act.put, List.setIfInBounds_toArray, List.set_cons_zero, List.set_cons_succ]
    refine takeW (i := 27) (oi := { dst := some 49, op := Op.pick (Operand.tmp 39) (Operand.const (Value.bool true)) (Operand.tmp 48), type := 4, pos := "pattern.go:137", after := #[{ on := 17, ground := Ground.data }, { on := 26, ground := Ground.data }], guard := none }) (v := ?va1404) rfl (by kernel_rfl) (by kernel_rfl) (by kernel_rfl) rfl (fun _ _ _ h => h) (Or.inl ⟨by rfl, ?ya1404⟩) (fun _ => by assumption) ?ra1404
    case ya1404 => (intro w _; go_simp; first | done | (with_reducible rfl))
    try simp only [Act.put, List.setIfInBounds_toArray, List.set_cons_zero, List.set_cons_succ]
    refine takeW (i := 28) (oi := { dst := some 50, op := Op.move (Operand.tmp 49), type := 4, pos := "pattern.go:137", after := #[{ on := 27, ground := Ground.data }, { on := 17, ground := Ground.chain }], guard := none }) (v := ?va1405) rfl (by kernel_rfl) (by kernel_rfl) (by kernel_rfl) rfl (fun _ _ _ h => h) (Or.inl ⟨by rfl, ?ya1405⟩) (fun _ => by assumption) ?ra1405
    case ya1405 => (intro w _; go_simp; first | done | (with_reducible rfl))
    try simp only [Act.put, List.setIfInBounds_toArray, List.set_cons_zero, List.set_cons_succ]
    refine takeW (i := 29) (oi := { dst := some 51, op := Op.move (Operand.tmp 4), type := 3, pos := "pattern.go:137", after := #[{ on := 28, ground := Ground.guard }], guard := some (28, false) }) (v := undef) rfl (by kernel_rfl) (by kernel_rfl) (by kernel_rfl) rfl (fun _ _ _ h => h) (Or.inr ⟨by rfl, rfl⟩) (fun _ => by assumption) ?_
    try simp only [Act.put, List.setIfInBounds_toArray, List.set_cons_zero, List.set_cons_succ]
    refine takeW (i := 30) (oi := { dst := some 52, op := Op.fieldAddr 43 (Operand.tmp 5) 2, type := 0, pos := "pattern.go:137", after := #[{ on := 28, ground := Ground.guard }], guard := some (28, false) }) (v := undef) rfl (by kernel_rfl) (by kernel_rfl) (by kernel_rfl) rfl (fun _ _ _ h => h) (Or.inr ⟨by rfl, rfl⟩) (fun _ => by assumption) ?_
    try simp only [Act.put, List.setIfInBounds_toArray, List.set_cons_zero, List.set_cons_succ]
    refine takeW (i := 32) (oi := { dst := some 54, op := Op.move (Operand.tmp 2), type := 3, pos := "pattern.go:137", after := #[{ on := 28, ground := Ground.guard }], guard := some (28, false) }) (v := undef) rfl (by kernel_rfl) (by kernel_rfl) (by kernel_rfl) rfl (fun _ _ _ h => h) (Or.inr ⟨by rfl, rfl⟩) (fun _ => by assumption) ?_
    try simp only [Act.put, List.setIfInBounds_toArray, List.set_cons_zero, List.set_cons_succ]
    refine takeW (i := 33) (oi := { dst := some 55, op := Op.fieldAddr 43 (Operand.tmp 5) 1, type := 0, pos := "pattern.go:137", after := #[{ on := 28, ground := Ground.guard }], guard := some (28, false) }) (v := undef) rfl (by kernel_rfl) (by kernel_rfl) (by kernel_rfl) rfl (fun _ _ _ h => h) (Or.inr ⟨by rfl, rfl⟩) (fun _ => by assumption) ?_
    try simp only [Act.put, List.setIfInBounds_toArray, List.set_cons_zero, List.set_cons_succ]
    refine takeW (i := 31) (oi := { dst := some 53, op := Op.load 3 (Operand.tmp 52), type := 3, pos := "pattern.go:137", after := #[{ on := 30, ground := Ground.data }, { on := 28, ground := Ground.guard }], guard := some (28, false) }) (v := undef) rfl (by kernel_rfl) (by kernel_rfl) (by kernel_rfl) rfl (fun _ _ _ h => h) (Or.inr ⟨by rfl, rfl⟩) (fun _ => by assumption) ?_
    try simp only [Act.put, List.setIfInBounds_toArray, List.set_cons_zero, List.set_cons_succ]
    refine takeW (i := 34) (oi := { dst := some 56, op := Op.load 3 (Operand.tmp 55), type := 3, pos := "pattern.go:137", after := #[{ on := 33, ground := Ground.data }, { on := 28, ground := Ground.guard }], guard := some (28, false) }) (v := undef) rfl (by kernel_rfl) (by kernel_rfl) (by kernel_rfl) rfl (fun _ _ _ h => h) (Or.inr ⟨by rfl, rfl⟩) (fun _ => by assumption) ?_
    try simp only [Act.put, List.setIfInBounds_toArray, List.set_cons_zero, List.set_cons_succ]
    refine takeW (i := 35) (oi := { dst := some 57, op := Op.binOp BinOp.quo 3 (Operand.tmp 54) (Operand.tmp 56) 3, type := 3, pos := "pattern.go:137", after := #[{ on := 32, ground := Ground.data }, { on := 34, ground := Ground.data }, { on := 28, ground := Ground.guard }], guard := some (28, false) }) (v := undef) rfl (by kernel_rfl) (by kernel_rfl) (by kernel_rfl) rfl (fun _ _ _ h => h) (Or.inr ⟨by rfl, rfl⟩) (fun _ => by assumption) ?_
    try simp only [Act.put, List.setIfInBounds_toArray, List.set_cons_zero, List.set_cons_succ]
    refine takeW (i := 36) (oi := { dst := some 58, op := Op.binOp BinOp.sub 3 (Operand.tmp 53) (Operand.tmp 57) 3, type := 3, pos := "pattern.go:137", after := #[{ on := 31, ground := Ground.data }, { on := 35, ground := Ground.data }, { on := 28, ground := Ground.guard }], guard := some (28, false) }) (v := undef) rfl (by kernel_rfl) (by kernel_rfl) (by kernel_rfl) rfl (fun _ _ _ h => h) (Or.inr ⟨by rfl, rfl⟩) (fun _ => by assumption) ?_
    try simp only [Act.put, List.setIfInBounds_toArray, List.set_cons_zero, List.set_cons_succ]
    refine takeW (i := 37) (oi := { dst := some 59, op := Op.binOp BinOp.gtr 3 (Operand.tmp 51) (Operand.tmp 58) 3, type := 4, pos := "pattern.go:137", after := #[{ on := 29, ground := Ground.data }, { on := 36, ground := Ground.data }, { on := 28, ground := Ground.guard }], guard := some (28, false) }) (v := undef) rfl (by kernel_rfl) (by kernel_rfl) (by kernel_rfl) rfl (fun _ _ _ h => h) (Or.inr ⟨by rfl, rfl⟩) (fun _ => by assumption) ?_
    try simp only [Act.put, List.setIfInBounds_toArray, List.set_cons_zero, List.set_cons_succ]
    refine takeW (i := 38) (oi := { dst := some 60, op := Op.pick (Operand.tmp 50) (Operand.const (Value.bool true)) (Operand.tmp 59), type := 4, pos := "pattern.go:137", after := #[{ on := 28, ground := Ground.data }, { on := 37, ground := Ground.data }], guard := none }) (v := ?va1415) rfl (by kernel_rfl) (by kernel_rfl) (by kernel_rfl) rfl (fun _ _ _ h => h) (Or.inl ⟨by rfl, ?ya1415⟩) (fun _ => by assumption) ?ra1415
    case ya1415 => (intro w _; go_simp; first | done | (with_reducible rfl))
    try simp only [Act.put, List.setIfInBounds_toArray, List.set_cons_zero, List.set_cons_succ]
    refine doneL (by kernel_rfl) ?_ _
    refine NoPanic.normal ?_
    have HB2 := Lib.hid Bz2
    have HLz := Lib.hid Lz
    clear Bz0 Bz1 Bz2 Lz hHeld
    go_wp2_with (refine wpList_store_box (vs := [.int .i64 0, .int .i64 0, .slice none 0 0, .int .i64 0]) (by rfl) 45 (.tmp 10) (.tmp 61) (by rfl) (w.heap.size + 1 + 1) (by rfl) (by rfl) HB2.out rfl (by kernel_rfl) (by rfl) ?_)
    exact bodyPost_ret (results_box rfl (by rfl) (by rfl) (HB2.out.store rfl) Try.underlying45 (by rfl) (by kernel_rfl)) rfl (.inl ⟨by rw [HE.out]; decide, by rw [HE.out]; rfl, below_setCells HLz.out (by omega) 0 _⟩)
  have d5 : decide (R.width - s % R.width < wd) = false := by simpa using c5
  by_cases c6 : R.height - s / R.width < ht
  · have d6 : decide (R.height - s / R.width < ht) = true := by simpa using c6
    have HE : Hid (cutErr R p s wd ht = 4) := Lib.hid (by unfold cutErr; rw [if_neg (by simp [HPE.out]), if_pos (.inr (.inr (.inr (.inr (.inr c6)))))])
    go_upto_region 4 with (fail)
    generalize w1 = wq at *
    have Bz0 : Box wq.drew (w.heap.size) [.string R.name, .int .i64 R.width, .int .i64 R.height, vp, vs, .bool R.falls, .bool R.keeps, ve, .int .i64 R.blocked, .int .i64 R.quiet, .int .i64 R.rept] 43 := HC0.out
    have Bz1 : Box wq.drew (w.heap.size + 1) [.slice ac p.cells.length cc, v0, v1, .int .i64 p.turn, .int .i64 p.quiet] 51 := HC1.out
    have Bz2 : Box wq.drew (w.heap.size + 1 + 1) [.int .i64 0, .int .i64 0, .slice none 0 0, .int .i64 0] 45 := HC2.out
    have Lz : Below w.heap.size w wq.drew := below_drew' HL1.out
    refine wp_region_noPanic ?_
    refine beginL (S := (fun w' => w'.cell? ⟨w.heap.size, 1, none⟩ = some (.int .i64 R.width) ∧ w'.cell? ⟨w.heap.size, 2, none⟩ = some (.int .i64 R.height) ∧ w'.cell? ⟨w.heap.size + 1, 0, none⟩ = some (.slice ac p.cells.length cc))) (L := []) (by kernel_rfl) ⟨Bz0.cell 1 rfl, Bz0.cell 2 rfl, Bz1.cell 0 rfl⟩ (fun hHeld => ?_)
    refine takeW (i := 0) (oi := { dst := some 22, op := Op.move (Operand.tmp 2), type := 3, pos := "pattern.go:137", after := #[], guard := none }) (v := ?va1476) rfl (by kernel_rfl) (by kernel_rfl) (by kernel_rfl) rfl (fun _ _ _ h => h) (Or.inl ⟨by rfl, ?ya1476⟩) (fun _ => by assumption) ?ra1476
    case ya1476 => (intro w _; go_simp; first | done | (with_reducible rfl))
    try simp only [Act.put, List.setIfInBounds_toArray, List.set_cons_zero, List.set_cons_succ]
    refine takeW (i := 1) (oi := { dst := some 23, op := Op.binOp BinOp.lss 3 (Operand.tmp 22) (Operand.const (Value.int IntKind.i64 0)) 3, type := 4, pos := "pattern.go:137", after := #[{ on := 0, ground := Ground.data }], guard := none }) (v := ?va1477) rfl (by kernel_rfl) (by kernel_rfl) (by kernel_rfl) rfl (fun _ _ _ h => h) (Or.inl ⟨by rfl, ?ya1477⟩) (fun _ => by assumption) ?ra1477
    case ya1477 => (intro w _; go_simp; first | done | (with_reducible rfl))
    try simp only [Act.put, List.setIfInBounds_toArray, List.set_cons_zero, List.set_cons_succ]
    refine takeW (i := 2) (oi := { dst := some 24, op := Op.move (Operand.tmp 23), type := 4, pos := "pattern.go:137", after := #[{ on := 1, ground := Ground.data }], guard := none }) (v := ?va1478) rfl (by kernel_rfl) (by kernel_rfl) (by kernel_rfl) rfl (fun _ _ _ h => h) (Or.inl ⟨by rfl, ?ya1478⟩) (fun _ => by assumption) ?ra1478
    case ya1478 => (intro w _; go_simp; first | done | (with_reducible rfl))
    try simp only [Act.put, List.setIfInBounds_toArray, List.set_cons_zero, List.set_cons_succ]
    refine takeW (i := 3) (oi := { dst := some 25, op := Op.move (Operand.tmp 2), type := 3, pos := "pattern.go:137", after := #[{ on := 2, ground := Ground.guard }], guard := some (2, false) }) (v := ?va1479) rfl (by kernel_rfl) (by kernel_rfl) (by kernel_rfl) rfl (fun _ _ _ h => h) (Or.inl ⟨by rfl, ?ya1479⟩) (fun _ => by assumption) ?ra1479
    case ya1479 => (intro w _; go_simp; first | done | (with_reducible rfl))
    try simp only [Act.put, List.setIfInBounds_toArray, List.set_cons_zero, List.set_cons_succ]
    refine takeW (i := 4) (oi := { dst := some 26, op := Op.fieldAddr 51 (Operand.tmp 6) 0, type := 0, pos := "pattern.go:137", after := #[{ on := 2, ground := Ground.guard }], guard := some (2, false) }) (v := ?va1480) rfl (by kernel_rfl) (by kernel_rfl) (by kernel_rfl) rfl (fun _ _ _ h => h) (Or.inl ⟨by rfl, ?ya1480⟩) (fun _ => by assumption) ?ra1480
    case ya1480 => (intro w _; go_simp; first | done | (with_reducible rfl))
    try simp only [Act.put, List.setIfInBounds_toArray, List.set_cons_zero, List.set_cons_succ]
    refine takeL (i := 5) (oi := { dst := some 27, op := Op.load 28 (Operand.tmp 26), type := 28, pos := "pattern.go:137", after := #[{ on := 4, ground := Ground.data }, { on := 2, ground := Ground.guard }], guard := some (2, false) }) (v := ?va1481) rfl (by kernel_rfl) (by kernel_rfl) (by kernel_rfl) (by kernel_rfl) rfl (by kernel_rfl) (by kernel_rfl) (fun _ _ _ h => h) (Or.inl ⟨by rfl, ?ya1481⟩) (by assumption) ?ra1481
    case ya1481 => (intro w hSw; (try dsimp only at hSw); go_simp; first | done | (with_reducible rfl))
    try simp only [Act.put, List.setIfInBounds_toArray, List.set_cons_zero, List.set_cons_succ]
    refine takeW (i := 6) (oi := { dst := some 28, op := Op.call { callee := Callee.builtin Builtin.len, args := #[Operand.tmp 27], argTypes := #[28] }, type := 3, pos := "pattern.go:137", after := #[{ on := 5, ground := Ground.data }, { on := 2, ground := Ground.guard }], guard := some (2, false) }) (v := ?va1482) rfl (by kernel_rfl) (by kernel_rfl) (by kernel_rfl) rfl (fun _ _ _ h => h) (Or.inl ⟨by rfl, ?ya1482⟩) (fun _ => by assumption) ?ra1482
    case ya1482 => (intro w _; go_simp; first | done | (with_reducible rfl))
    try simp only [Act.put, List.setIfInBounds_toArray, List.set_cons_zero, List.set_cons_succ]
    refine takeW (i := 7) (oi := { dst := some 29, op := Op.binOp BinOp.geq 3 (Operand.tmp 25) (Operand.tmp 28) 3, type := 4, pos := "pattern.go:137", after := #[{ on := 3, ground := Ground.data }, { on := 6, ground := Ground.data }, { on := 2, ground := Ground.guard }], guard := some (2, false) }) (v := ?va1483) rfl (by kernel_rfl) (by kernel_rfl) (by kernel_rfl) rfl (fun _ _ _ h => h) (Or.inl ⟨by rfl, ?ya1483⟩) (fun _ => by assumption) ?ra1483
    case ya1483 => (intro w _; go_simp; first | done | (with_reducible rfl))
    try simp only [Act.put, List.setIfInBounds_toArray, List.set_cons_zero, List.set_cons_succ]
    refine takeW (i := 8) (oi := { dst := some 30, op := Op.pick (Operand.tmp 24) (Operand.const (Value.bool true)) (Operand.tmp 29), type := 4, pos := "pattern.go:137", after := #[{ on := 2, ground := Ground.data }, { on := 7, ground := Ground.data }], guard := none }) (v := ?va1484) rfl (by kernel_rfl) (by kernel_rfl) (by kernel_rfl) rfl (fun _ _ _ h => h) (Or.inl ⟨by rfl, ?ya1484⟩) (fun _ => by assumption) ?ra1484
    case ya1484 => (intro w _; go_simp; first | done | (with_reducible rfl))
    try simp only [Act.put, List.setIfInBounds_toArray, List.set_cons_zero, List.set_cons_succ]
    refine takeW (i := 9) (oi := { dst := some 31, op := Op.move (Operand.tmp 30), type := 4, pos := "pattern.go:137", after := #[{ on := 8, ground := Ground.data }, { on := 2, ground := Ground.chain }], guard := none }) (v := ?va1485) rfl (by kernel_rfl) (by kernel_rfl) (by kernel_rfl) rfl (fun _ _ _ h => h) (Or.inl ⟨by rfl, ?ya1485⟩) (fun _ => by assumption) ?ra1485
    case ya1485 => (intro w _; go_simp; first | done | (with_reducible rfl))
    try simp only [Act.put, List.setIfInBounds_toArray, List.set_cons_zero, List.set_cons_succ]
    refine takeW (i := 10) (oi := { dst := some 32, op := Op.move (Operand.tmp 3), type := 3, pos := "pattern.go:137", after := #[{ on := 9, ground := Ground.guard }], guard := some (9, false) }) (v := ?va1486) rfl (by kernel_rfl) (by kernel_rfl) (by kernel_rfl) rfl (fun _ _ _ h => h) (Or.inl ⟨by rfl, ?ya1486⟩) (fun _ => by assumption) ?ra1486
    case ya1486 => (intro w _; go_simp; first | done | (with_reducible rfl))
    try simp only [Act.put, List.setIfInBounds_toArray, List.set_cons_zero, List.set_cons_succ]
    refine takeW (i := 11) (oi := { dst := some 33, op := Op.binOp BinOp.lss 3 (Operand.tmp 32) (Operand.const (Value.int IntKind.i64 1)) 3, type := 4, pos := "pattern.go:137", after := #[{ on := 10, ground := Ground.data }, { on := 9, ground := Ground.guard }], guard := some (9, false) }) (v := ?va1487) rfl (by kernel_rfl) (by kernel_rfl) (by kernel_rfl) rfl (fun _ _ _ h => h) (Or.inl ⟨by rfl, ?ya1487⟩) (fun _ => by assumption) ?ra1487
    case ya1487 => (intro w _; go_simp; first | done | (with_reducible rfl))
    try simp only [Act.put, List.setIfInBounds_toArray, List.set_cons_zero, List.set_cons_succ]
    refine takeW (i := 12) (oi := { dst := some 34, op := Op.pick (Operand.tmp 31) (Operand.const (Value.bool true)) (Operand.tmp 33), type := 4, pos := "pattern.go:137", after := #[{ on := 9, ground := Ground.data }, { on := 11, ground := Ground.data }], guard := none }) (v := ?va1488) rfl (by kernel_rfl) (by kernel_rfl) (by kernel_rfl) rfl (fun _ _ _ h => h) (Or.inl ⟨by rfl, ?ya1488⟩) (fun _ => by assumption) ?ra1488
    case ya1488 => (intro w _; go_simp; first | done | (with_reducible rfl))
    try simp only [Act.put, List.setIfInBounds_toArray, List.set_cons_zero, List.set_cons_succ]
    refine takeW (i := 13) (oi := { dst := some 35, op := Op.move (Operand.tmp 34), type := 4, pos := "pattern.go:137", after := #[{ on := 12, ground := Ground.data }, { on := 9, ground := Ground.chain }], guard := none }) (v := ?va1489) rfl (by kernel_rfl) (by kernel_rfl) (by kernel_rfl) rfl (fun _ _ _ h => h) (Or.inl ⟨by rfl, ?ya1489⟩) (fun _ => by assumption) ?ra1489
    case ya1489 => (intro w _; go_simp; first | done | (with_reducible rfl))
    try simp only [Act.put, List.setIfInBounds_toArray, List.set_cons_zero, List.set_cons_succ]
    refine takeW (i := 14) (oi := { dst := some 36, op := Op.move (Operand.tmp 4), type := 3, pos := "pattern.go:137", after := #[{ on := 13, ground := Ground.guard }], guard := some (13, false) }) (v := ?va1490) rfl (by kernel_rfl) (by kernel_rfl) (by kernel_rfl) rfl (fun _ _ _ h => h) (Or.inl ⟨by rfl, ?ya1490⟩) (fun _ => by assumption) ?ra1490
    case ya1490 => (intro w _; go_simp; first | done | (with_reducible rfl))
    try simp only [Act.put, List.setIfInBounds_toArray, List.set_cons_zero, List.set_cons_succ]
    refine takeW (i := 15) (oi := { dst := some 37, op := Op.binOp BinOp.lss 3 (Operand.tmp 36) (Operand.const (Value.int IntKind.i64 1)) 3, type := 4, pos := "pattern.go:137", after := #[{ on := 14, ground := Ground.data }, { on := 13, ground := Ground.guard }], guard := some (13, false) }) (v := ?va1491) rfl (by kernel_rfl) (by kernel_rfl) (by kernel_rfl) rfl (fun _ _ _ h => h) (Or.inl ⟨by rfl, ?ya1491⟩) (fun _ => by assumption) ?ra1491
    case ya1491 => (intro w _; go_simp; first | done | (with_reducible rfl))
    try simp only [Act.put, List.setIfInBounds_toArray, List.set_cons_zero, List.set_cons_succ]
    refine takeW (i := 16) (oi := { dst := some 38, op := Op.pick (Operand.tmp 35) (Operand.const (Value.bool true)) (Operand.tmp 37), type := 4, pos := "pattern.go:137", after := #[{ on := 13, ground := Ground.data }, { on := 15, ground := Ground.data }], guard := none }) (v := ?va1492) rfl (by kernel_rfl) (by kernel_rfl) (by kernel_rfl) rfl (fun _ _ _ h => h) (Or.inl ⟨by rfl, ?ya1492⟩) (fun _ => by assumption) ?ra1492
    case ya1492 => (intro w _; go_simp; first | done | (with_reducible rfl))
    try simp only [Act.put, List.setIfInBounds_toArray, List.set_cons_zero, List.set_cons_succ]
    refine takeW (i := 17) (oi := { dst := some 39, op := Op.move (Operand.tmp 38), type := 4, pos := "pattern.go:137", after := #[{ on := 16, ground := Ground.data }, { on := 13, ground := Ground.chain }], guard := none }) (v := ?va1493) rfl (by kernel_rfl) (by kernel_rfl) (by kernel_rfl) rfl (fun _ _ _ h => h) (Or.inl ⟨by rfl, ?ya1493⟩) (fun _ => by assumption) ?ra1493
    case ya1493 => (intro w _; go_simp; first | done | (with_reducible rfl))
    try simp only [Act.put, List.setIfInBounds_toArray, List.set_cons_zero, List.set_cons_succ]
    refine takeW (i := 18) (oi := { dst := some 40, op := Op.move (Operand.tmp 3), type := 3, pos := "pattern.go:137", after := #[{ on := 17, ground := Ground.guard }], guard := some (17, false) }) (v := ?va1494) rfl (by kernel_rfl) (by kernel_rfl) (by kernel_rfl) rfl (fun _ _ _ h => h) (Or.inl ⟨by rfl, ?ya1494⟩) (fun _ => by assumption) ?ra1494
    case ya1494 => (intro w _; go_simp; first | done | (with_reducible rfl))
    try simp only [Act.put, List.setIfInBounds_toArray, List.set_cons_zero, List.set_cons_succ]
    refine takeW (i := 19) (oi := { dst := some 41, op := Op.fieldAddr 43 (Operand.tmp 5) 1, type := 0, pos := "pattern.go:137", after := #[{ on := 17, ground := Ground.guard }], guard := some (17, false) }) (v := ?va1495) rfl (by kernel_rfl) (by kernel_rfl) (by kernel_rfl) rfl (fun _ _ _ h => h) (Or.inl ⟨by rfl, ?ya1495⟩) (fun _ => by assumption) ?ra1495
    case ya1495 => (intro w _; go_simp; first | done | (with_reducible rfl))
    try simp only [Act.put, List.setIfInBounds_toArray, List.set_cons_zero, List.set_cons_succ]
    refine takeW (i := 21) (oi := { dst := some 43, op := Op.move (Operand.tmp 2), type := 3, pos := "pattern.go:137", after := #[{ on := 17, ground := Ground.guard }], guard := some (17, false) }) (v := ?va1496) rfl (by kernel_rfl) (by kernel_rfl) (by kernel_rfl) rfl (fun _ _ _ h => h) (Or.inl ⟨by rfl, ?ya1496⟩) (fun _ => by assumption) ?ra1496
    case ya1496 => (intro w _; go_simp; first | done | (with_reducible rfl))
    try simp only [Act.put, List.setIfInBounds_toArray, List.set_cons_zero, List.set_cons_succ]
    refine takeW (i := 22) (oi := { dst := some 44, op := Op.fieldAddr 43 (Operand.tmp 5) 1, type := 0, pos := "pattern.go:137", after := #[{ on := 17, ground := Ground.guard }], guard := some (17, false) }) (v := ?va1497) rfl (by kernel_rfl) (by kernel_rfl) (by kernel_rfl) rfl (fun _ _ _ h => h) (Or.inl ⟨by rfl, ?ya1497⟩) (fun _ => by assumption) ?ra1497
    case ya1497 => (intro w _; go_simp; first | done | (with_reducible rfl))
    try simp only [Act.put, List.setIfInBounds_toArray, List.set_cons_zero, List.set_cons_succ]
    refine takeL (i := 20) (oi := { dst := some 42, op := Op.load 3 (Operand.tmp 41), type := 3, pos := "pattern.go:137", after := #[{ on := 19, ground := Ground.data }, { on := 17, ground := Ground.guard }], guard := some (17, false) }) (v := ?va1498) rfl (by kernel_rfl) (by kernel_rfl) (by kernel_rfl) (by kernel_rfl) rfl (by kernel_rfl) (by kernel_rfl) (fun _ _ _ h => h) (Or.inl ⟨by rfl, ?ya1498⟩) (by assumption) ?ra1498
    case ya1498 => (intro w hSw; (try dsimp only at hSw); go_simp; first | done | (with_reducible rfl))
    try simp only [Act.put, List.setIfInBounds_toArray, List.set_cons_zero, List.set_cons_succ]
    refine takeL (i := 23) (oi := { dst := some 45, op := Op.load 3 (Operand.tmp 44), type := 3, pos := "pattern.go:137", after := #[{ on := 22, ground := Ground.data }, { on := 17, ground := Ground.guard }], guard := some (17, false) }) (v := ?va1499) rfl (by kernel_rfl) (by kernel_rfl) (by kernel_rfl) (by kernel_rfl) rfl (by kernel_rfl) (by kernel_rfl) (fun _ _ _ h => h) (Or.inl ⟨by rfl, ?ya1499⟩) (by assumption) ?ra1499
    case ya1499 => (intro w hSw; (try dsimp only at hSw); go_simp; first | done | (with_reducible rfl))
    try simp only [Act.put, List.setIfInBounds_toArray, List.set_cons_zero, List.set_cons_succ]
    refine takeW (i := 24) (oi := { dst := some 46, op := Op.binOp BinOp.rem 3 (Operand.tmp 43) (Operand.tmp 45) 3, type := 3, pos := "pattern.go:137", after := #[{ on := 21, ground := Ground.data }, { on := 23, ground := Ground.data }, { on := 17, ground := Ground.guard }], guard := some (17, false) }) (v := ?va1500) rfl (by kernel_rfl) (by kernel_rfl) (by kernel_rfl) rfl (fun _ _ _ h => h) (Or.inl ⟨by rfl, ?ya1500⟩) (fun _ => by assumption) ?ra1500
    case ya1500 => (intro w _; go_simp; first | done | (with_reducible rfl))
    try simp only [Act.put, List.setIfInBounds_toArray, List.set_cons_zero, List.set_cons_succ]
    refine takeW (i := 25) (oi := { dst := some 47, op := Op.binOp BinOp.sub 3 (Operand.tmp 42) (Operand.tmp 46) 3, type := 3, pos := "pattern.go:137", after := #[{ on := 20, ground := Ground.data }, { on := 24, ground := Ground.data }, { on := 17, ground := Ground.guard }], guard := some (17, false) }) (v := ?va1501) rfl (by kernel_rfl) (by kernel_rfl) (by kernel_rfl) rfl (fun _ _ _ h => h) (Or.inl ⟨by rfl, ?ya1501⟩) (fun _ => by assumption) ?ra1501
    case ya1501 => (intro w _; go_simp; first | done | (with_reducible rfl))
    try simp only [Act.put, List.setIfInBounds_toArray, List.set_cons_zero, List.set_cons_succ]
    refine takeW (i := 26) (oi := { dst := some 48, op := Op.binOp BinOp.gtr 3 (Operand.tmp 40) (Operand.tmp 47) 3, type := 4, pos := "pattern.go:137", after := #[{ on := 18, ground := Ground.data }, { on := 25, ground := Ground.data }, { on := 17, ground := Ground.guard }], guard := some (17, false) }) (v := ?va1502) rfl (by kernel_rfl) (by kernel_rfl) (by kernel_rfl) rfl (fun _ _ _ h => h) (Or.inl ⟨by rfl, ?ya1502⟩) (fun _ => by assumption) ?ra1502
    case ya1502 => (intro w _; go_simp; first | done | (with_reducible rfl))
    try simp only [Act.put, List.setIfInBounds_toArray, List.set_cons_zero, List.set_cons_succ]
    refine takeW (i := 27) (oi := { dst := some 49, op := Op.pick (Operand.tmp 39) (Operand.const (Value.bool true)) (Operand.tmp 48), type := 4, pos := "pattern.go:137", after := #[{ on := 17, ground := Ground.data }, { on := 26, ground := Ground.data }], guard := none }) (v := ?va1503) rfl (by kernel_rfl) (by kernel_rfl) (by kernel_rfl) rfl (fun _ _ _ h => h) (Or.inl ⟨by rfl, ?ya1503⟩) (fun _ => by assumption) ?ra1503
    case ya1503 => (intro w _; go_simp; first | done | (with_reducible rfl))
    try simp only [Act.put, List.setIfInBounds_toArray, List.set_cons_zero, List.set_cons_succ]
    refine takeW (i := 28) (oi := { dst := some 50, op := Op.move (Operand.tmp 49), type := 4, pos := "pattern.go:137", after := #[{ on := 27, ground := Ground.data }, { on := 17, ground := Ground.chain }], guard := none }) (v := ?va1504) rfl (by kernel_rfl) (by kernel_rfl) (by kernel_rfl) rfl (fun _ _ _ h => h) (Or.inl ⟨by rfl, ?ya1504⟩) (fun _ => by assumption) ?ra1504
    case ya1504 => (intro w _; go_simp; first | done | (with_reducible rfl))
    try simp only [Act.put, List.setIfInBounds_toArray, List.set_cons_zero, List.set_cons_succ]
    refine takeW (i := 29) (oi := { dst := some 51, op := Op.move (Operand.tmp 4), type := 3, pos := "pattern.go:137", after := #[{ on := 28, ground := Ground.guard }], guard := some (28, false) }) (v := ?va1505) rfl (by kernel_rfl) (by kernel_rfl) (by kernel_rfl) rfl (fun _ _ _ h => h) (Or.inl ⟨by rfl, ?ya1505⟩) (fun _ => by assumption) ?ra1505
    case ya1505 => (intro w _; go_simp; first | done | (with_reducible rfl))
    try simp only [Act.put, List.setIfInBounds_toArray, List.set_cons_zero, List.set_cons_succ]
    refine takeW (i := 30) (oi := { dst := some 52, op := Op.fieldAddr 43 (Operand.tmp 5) 2, type := 0, pos := "pattern.go:137", after := #[{ on := 28, ground := Ground.guard }], guard := some (28, false) }) (v := ?va1506) rfl (by kernel_rfl) (by kernel_rfl) (by kernel_rfl) rfl (fun _ _ _ h => h) (Or.inl ⟨by rfl, ?ya1506⟩) (fun _ => by assumption) ?ra1506
    case ya1506 => (intro w _; go_simp; first | done | (with_reducible rfl))
    try simp only [Act.put, List.setIfInBounds_toArray, List.set_cons_zero, List.set_cons_succ]
    refine takeW (i := 32) (oi := { dst := some 54, op := Op.move (Operand.tmp 2), type := 3, pos := "pattern.go:137", after := #[{ on := 28, ground := Ground.guard }], guard := some (28, false) }) (v := ?va1507) rfl (by kernel_rfl) (by kernel_rfl) (by kernel_rfl) rfl (fun _ _ _ h => h) (Or.inl ⟨by rfl, ?ya1507⟩) (fun _ => by assumption) ?ra1507
    case ya1507 => (intro w _; go_simp; first | done | (with_reducible rfl))
    try simp only [Act.put, List.setIfInBounds_toArray, List.set_cons_zero, List.set_cons_succ]
    refine takeW (i := 33) (oi := { dst := some 55, op := Op.fieldAddr 43 (Operand.tmp 5) 1, type := 0, pos := "pattern.go:137", after := #[{ on := 28, ground := Ground.guard }], guard := some (28, false) }) (v := ?va1508) rfl (by kernel_rfl) (by kernel_rfl) (by kernel_rfl) rfl (fun _ _ _ h => h) (Or.inl ⟨by rfl, ?ya1508⟩) (fun _ => by assumption) ?ra1508
    case ya1508 => (intro w _; go_simp; first | done | (with_reducible rfl))
    try simp only [Act.put, List.setIfInBounds_toArray, List.set_cons_zero, List.set_cons_succ]
    refine takeL (i := 31) (oi := { dst := some 53, op := Op.load 3 (Operand.tmp 52), type := 3, pos := "pattern.go:137", after := #[{ on := 30, ground := Ground.data }, { on := 28, ground := Ground.guard }], guard := some (28, false) }) (v := ?va1509) rfl (by kernel_rfl) (by kernel_rfl) (by kernel_rfl) (by kernel_rfl) rfl (by kernel_rfl) (by kernel_rfl) (fun _ _ _ h => h) (Or.inl ⟨by rfl, ?ya1509⟩) (by assumption) ?ra1509
    case ya1509 => (intro w hSw; (try dsimp only at hSw); go_simp; first | done | (with_reducible rfl))
    try simp only [Act.put, List.setIfInBounds_toArray, List.set_cons_zero, List.set_cons_succ]
    refine takeL (i := 34) (oi := { dst := some 56, op := Op.load 3 (Operand.tmp 55), type := 3, pos := "pattern.go:137", after := #[{ on := 33, ground := Ground.data }, { on := 28, ground := Ground.guard }], guard := some (28, false) }) (v := ?va1510) rfl (by kernel_rfl) (by kernel_rfl) (by kernel_rfl) (by kernel_rfl) rfl (by kernel_rfl) (by kernel_rfl) (fun _ _ _ h => h) (Or.inl ⟨by rfl, ?ya1510⟩) (by assumption) ?ra1510
    case ya1510 => (intro w hSw; (try dsimp only at hSw); go_simp; first | done | (with_reducible rfl))
    try simp only [Act.put, List.setIfInBounds_toArray, List.set_cons_zero, List.set_cons_succ]
    refine takeW (i := 35) (oi := { dst := some 57, op := Op.binOp BinOp.quo 3 (Operand.tmp 54) (Operand.tmp 56) 3, type := 3, pos := "pattern.go:137", after := #[{ on := 32, ground := Ground.data }, { on := 34, ground := Ground.data }, { on := 28, ground := Ground.guard }], guard := some (28, false) }) (v := ?va1511) rfl (by kernel_rfl) (by kernel_rfl) (by kernel_rfl) rfl (fun _ _ _ h => h) (Or.inl ⟨by rfl, ?ya1511⟩) (fun _ => by assumption) ?ra1511
    case ya1511 => (intro w _; go_simp; first | done | (with_reducible rfl))
    try simp only [Act.put, List.setIfInBounds_toArray, List.set_cons_zero, List.set_cons_succ]
    refine takeW (i := 36) (oi := { dst := some 58, op := Op.binOp BinOp.sub 3 (Operand.tmp 53) (Operand.tmp 57) 3, type := 3, pos := "pattern.go:137", after := #[{ on := 31, ground := Ground.data }, { on := 35, ground := Ground.data }, { on := 28, ground := Ground.guard }], guard := some (28, false) }) (v := ?va1512) rfl (by kernel_rfl) (by kernel_rfl) (by kernel_rfl) rfl (fun _ _ _ h => h) (Or.inl ⟨by rfl, ?ya1512⟩) (fun _ => by assumption) ?ra1512
    case ya1512 => (intro w _; go_simp; first | done | (with_reducible rfl))
    try simp only [Act.put, List.setIfInBounds_toArray, List.set_cons_zero, List.set_cons_succ]
    refine takeW (i := 37) (oi := { dst := some 59, op := Op.binOp BinOp.gtr 3 (Operand.tmp 51) (Operand.tmp 58) 3, type := 4, pos := "pattern.go:137", after := #[{ on := 29, ground := Ground.data }, { on := 36, ground := Ground.data }, { on := 28, ground := Ground.guard }], guard := some (28, false) }) (v := ?va1513) rfl (by kernel_rfl) (by kernel_rfl) (by kernel_rfl) rfl (fun _ _ _ h => h) (Or.inl ⟨by rfl, ?ya1513⟩) (fun _ => by assumption) ?ra1513
    case ya1513 => (intro w _; go_simp; first | done | (with_reducible rfl))
    try simp only [Act.put, List.setIfInBounds_toArray, List.set_cons_zero, List.set_cons_succ]
    refine takeW (i := 38) (oi := { dst := some 60, op := Op.pick (Operand.tmp 50) (Operand.const (Value.bool true)) (Operand.tmp 59), type := 4, pos := "pattern.go:137", after := #[{ on := 28, ground := Ground.data }, { on := 37, ground := Ground.data }], guard := none }) (v := ?va1514) rfl (by kernel_rfl) (by kernel_rfl) (by kernel_rfl) rfl (fun _ _ _ h => h) (Or.inl ⟨by rfl, ?ya1514⟩) (fun _ => by assumption) ?ra1514
    case ya1514 => (intro w _; go_simp; first | done | (with_reducible rfl))
    try simp only [Act.put, List.setIfInBounds_toArray, List.set_cons_zero, List.set_cons_succ]
    refine doneL (by kernel_rfl) ?_ _
    refine NoPanic.normal ?_
    have HB2 := Lib.hid Bz2
    have HLz := Lib.hid Lz
    clear Bz0 Bz1 Bz2 Lz hHeld
    go_wp2_with (refine wpList_store_box (vs := [.int .i64 0, .int .i64 0, .slice none 0 0, .int .i64 0]) (by rfl) 45 (.tmp 10) (.tmp 61) (by rfl) (w.heap.size + 1 + 1) (by rfl) (by rfl) HB2.out rfl (by kernel_rfl) (by rfl) ?_)
    exact bodyPost_ret (results_box rfl (by rfl) (by rfl) (HB2.out.store rfl) Try.underlying45 (by rfl) (by kernel_rfl)) rfl (.inl ⟨by rw [HE.out]; decide, by rw [HE.out]; rfl, below_setCells HLz.out (by omega) 0 _⟩)
  have d6 : decide (R.height - s / R.width < ht) = false := by simpa using c6
  have HE : Hid (cutErr R p s wd ht = 0) := Lib.hid (by unfold cutErr; rw [if_neg (by simp [HPE.out]), if_neg (by omega)])
  go_upto_region 4 with (fail)
  generalize w1 = wq at *
  have Bz0 : Box wq.drew (w.heap.size) [.string R.name, .int .i64 R.width, .int .i64 R.height, vp, vs, .bool R.falls, .bool R.keeps, ve, .int .i64 R.blocked, .int .i64 R.quiet, .int .i64 R.rept] 43 := HC0.out
  have Bz1 : Box wq.drew (w.heap.size + 1) [.slice ac p.cells.length cc, v0, v1, .int .i64 p.turn, .int .i64 p.quiet] 51 := HC1.out
  have Bz2 : Box wq.drew (w.heap.size + 1 + 1) [.int .i64 0, .int .i64 0, .slice none 0 0, .int .i64 0] 45 := HC2.out
  have Lz : Below w.heap.size w wq.drew := below_drew' HL1.out
  refine wp_region_noPanic ?_
  refine beginL (S := (fun w' => w'.cell? ⟨w.heap.size, 1, none⟩ = some (.int .i64 R.width) ∧ w'.cell? ⟨w.heap.size, 2, none⟩ = some (.int .i64 R.height) ∧ w'.cell? ⟨w.heap.size + 1, 0, none⟩ = some (.slice ac p.cells.length cc))) (L := []) (by kernel_rfl) ⟨Bz0.cell 1 rfl, Bz0.cell 2 rfl, Bz1.cell 0 rfl⟩ (fun hHeld => ?_)
  refine takeW (i := 0) (oi := { dst := some 22, op := Op.move (Operand.tmp 2), type := 3, pos := "pattern.go:137", after := #[], guard := none }) (v := ?va1575) rfl (by kernel_rfl) (by kernel_rfl) (by kernel_rfl) rfl (fun _ _ _ h => h) (Or.inl ⟨by rfl, ?ya1575⟩) (fun _ => by assumption) ?ra1575
  case ya1575 => (intro w _; go_simp; first | done | (with_reducible rfl))
  try simp only [Act.put, List.setIfInBounds_toArray, List.set_cons_zero, List.set_cons_succ]
  refine takeW (i := 1) (oi := { dst := some 23, op := Op.binOp BinOp.lss 3 (Operand.tmp 22) (Operand.const (Value.int IntKind.i64 0)) 3, type := 4, pos := "pattern.go:137", after := #[{ on := 0, ground := Ground.data }], guard := none }) (v := ?va1576) rfl (by kernel_rfl) (by kernel_rfl) (by kernel_rfl) rfl (fun _ _ _ h => h) (Or.inl ⟨by rfl, ?ya1576⟩) (fun _ => by assumption) ?ra1576
  case ya1576 => (intro w _; go_simp; first | done | (with_reducible rfl))
  try simp only [Act.put, List.setIfInBounds_toArray, List.set_cons_zero, List.set_cons_succ]
  refine takeW (i := 2) (oi := { dst := some 24, op := Op.move (Operand.tmp 23), type := 4, pos := "pattern.go:137", after := #[{ on := 1, ground := Ground.data }], guard := none }) (v := ?va1577) rfl (by kernel_rfl) (by kernel_rfl) (by kernel_rfl) rfl (fun _ _ _ h => h) (Or.inl ⟨by rfl, ?ya1577⟩) (fun _ => by assumption) ?ra1577
  case ya1577 => (intro w _; go_simp; first | done | (with_reducible rfl))
  try simp only [Act.put, List.setIfInBounds_toArray, List.set_cons_zero, List.set_cons_succ]
  refine takeW (i := 3) (oi := { dst := some 25, op := Op.move (Operand.tmp 2), type := 3, pos := "pattern.go:137", after := #[{ on := 2, ground := Ground.guard }], guard := some (2, false) }) (v := ?va1578) rfl (by kernel_rfl) (by kernel_rfl) (by kernel_rfl) rfl (fun _ _ _ h => h) (Or.inl ⟨by rfl, ?ya1578⟩) (fun _ => by assumption) ?ra1578
  case ya1578 => (intro w _; go_simp; first | done | (with_reducible rfl))
  try simp only [Act.put, List.setIfInBounds_toArray, List.set_cons_zero, List.set_cons_succ]
  refine takeW (i := 4) (oi := { dst := some 26, op := Op.fieldAddr 51 (Operand.tmp 6) 0, type := 0, pos := "pattern.go:137", after := #[{ on := 2, ground := Ground.guard }], guard := some (2, false) }) (v := ?va1579) rfl (by kernel_rfl) (by kernel_rfl) (by kernel_rfl) rfl (fun _ _ _ h => h) (Or.inl ⟨by rfl, ?ya1579⟩) (fun _ => by assumption) ?ra1579
  case ya1579 => (intro w _; go_simp; first | done | (with_reducible rfl))
  try simp only [Act.put, List.setIfInBounds_toArray, List.set_cons_zero, List.set_cons_succ]
  refine takeL (i := 5) (oi := { dst := some 27, op := Op.load 28 (Operand.tmp 26), type := 28, pos := "pattern.go:137", after := #[{ on := 4, ground := Ground.data }, { on := 2, ground := Ground.guard }], guard := some (2, false) }) (v := ?va1580) rfl (by kernel_rfl) (by kernel_rfl) (by kernel_rfl) (by kernel_rfl) rfl (by kernel_rfl) (by kernel_rfl) (fun _ _ _ h => h) (Or.inl ⟨by rfl, ?ya1580⟩) (by assumption) ?ra1580
  case ya1580 => (intro w hSw; (try dsimp only at hSw); go_simp; first | done | (with_reducible rfl))
  try simp only [Act.put, List.setIfInBounds_toArray, List.set_cons_zero, List.set_cons_succ]
  refine takeW (i := 6) (oi := { dst := some 28, op := Op.call { callee := Callee.builtin Builtin.len, args := #[Operand.tmp 27], argTypes := #[28] }, type := 3, pos := "pattern.go:137", after := #[{ on := 5, ground := Ground.data }, { on := 2, ground := Ground.guard }], guard := some (2, false) }) (v := ?va1581) rfl (by kernel_rfl) (by kernel_rfl) (by kernel_rfl) rfl (fun _ _ _ h => h) (Or.inl ⟨by rfl, ?ya1581⟩) (fun _ => by assumption) ?ra1581
  case ya1581 => (intro w _; go_simp; first | done | (with_reducible rfl))
  try simp only [Act.put, List.setIfInBounds_toArray, List.set_cons_zero, List.set_cons_succ]
  refine takeW (i := 7) (oi := { dst := some 29, op := Op.binOp BinOp.geq 3 (Operand.tmp 25) (Operand.tmp 28) 3, type := 4, pos := "pattern.go:137", after := #[{ on := 3, ground := Ground.data }, { on := 6, ground := Ground.data }, { on := 2, ground := Ground.guard }], guard := some (2, false) }) (v := ?va1582) rfl (by kernel_rfl) (by kernel_rfl) (by kernel_rfl) rfl (fun _ _ _ h => h) (Or.inl ⟨by rfl, ?ya1582⟩) (fun _ => by assumption) ?ra1582
  case ya1582 => (intro w _; go_simp; first | done | (with_reducible rfl))
  try simp only [Act.put, List.setIfInBounds_toArray, List.set_cons_zero, List.set_cons_succ]
  refine takeW (i := 8) (oi := { dst := some 30, op := Op.pick (Operand.tmp 24) (Operand.const (Value.bool true)) (Operand.tmp 29), type := 4, pos := "pattern.go:137", after := #[{ on := 2, ground := Ground.data }, { on := 7, ground := Ground.data }], guard := none }) (v := ?va1583) rfl (by kernel_rfl) (by kernel_rfl) (by kernel_rfl) rfl (fun _ _ _ h => h) (Or.inl ⟨by rfl, ?ya1583⟩) (fun _ => by assumption) ?ra1583
  case ya1583 => (intro w _; go_simp; first | done | (with_reducible rfl))
  try simp only [Act.put, List.setIfInBounds_toArray, List.set_cons_zero, List.set_cons_succ]
  refine takeW (i := 9) (oi := { dst := some 31, op := Op.move (Operand.tmp 30), type := 4, pos := "pattern.go:137", after := #[{ on := 8, ground := Ground.data }, { on := 2, ground := Ground.chain }], guard := none }) (v := ?va1584) rfl (by kernel_rfl) (by kernel_rfl) (by kernel_rfl) rfl (fun _ _ _ h => h) (Or.inl ⟨by rfl, ?ya1584⟩) (fun _ => by assumption) ?ra1584
  case ya1584 => (intro w _; go_simp; first | done | (with_reducible rfl))
  try simp only [Act.put, List.setIfInBounds_toArray, List.set_cons_zero, List.set_cons_succ]
  refine takeW (i := 10) (oi := { dst := some 32, op := Op.move (Operand.tmp 3), type := 3, pos := "pattern.go:137", after := #[{ on := 9, ground := Ground.guard }], guard := some (9, false) }) (v := ?va1585) rfl (by kernel_rfl) (by kernel_rfl) (by kernel_rfl) rfl (fun _ _ _ h => h) (Or.inl ⟨by rfl, ?ya1585⟩) (fun _ => by assumption) ?ra1585
  case ya1585 => (intro w _; go_simp; first | done | (with_reducible rfl))
  try simp only [Act.put, List.setIfInBounds_toArray, List.set_cons_zero, List.set_cons_succ]
  refine takeW (i := 11) (oi := { dst := some 33, op := Op.binOp BinOp.lss 3 (Operand.tmp 32) (Operand.const (Value.int IntKind.i64 1)) 3, type := 4, pos := "pattern.go:137", after := #[{ on := 10, ground := Ground.data }, { on := 9, ground := Ground.guard }], guard := some (9, false) }) (v := ?va1586) rfl (by kernel_rfl) (by kernel_rfl) (by kernel_rfl) rfl (fun _ _ _ h => h) (Or.inl ⟨by rfl, ?ya1586⟩) (fun _ => by assumption) ?ra1586
  case ya1586 => (intro w _; go_simp; first | done | (with_reducible rfl))
  try simp only [Act.put, List.setIfInBounds_toArray, List.set_cons_zero, List.set_cons_succ]
  refine takeW (i := 12) (oi := { dst := some 34, op := Op.pick (Operand.tmp 31) (Operand.const (Value.bool true)) (Operand.tmp 33), type := 4, pos := "pattern.go:137", after := #[{ on := 9, ground := Ground.data }, { on := 11, ground := Ground.data }], guard := none }) (v := ?va1587) rfl (by kernel_rfl) (by kernel_rfl) (by kernel_rfl) rfl (fun _ _ _ h => h) (Or.inl ⟨by rfl, ?ya1587⟩) (fun _ => by assumption) ?ra1587
  case ya1587 => (intro w _; go_simp; first | done | (with_reducible rfl))
  try simp only [Act.put, List.setIfInBounds_toArray, List.set_cons_zero, List.set_cons_succ]
  refine takeW (i := 13) (oi := { dst := some 35, op := Op.move (Operand.tmp 34), type := 4, pos := "pattern.go:137", after := #[{ on := 12, ground := Ground.data }, { on := 9, ground := Ground.chain }], guard := none }) (v := ?va1588) rfl (by kernel_rfl) (by kernel_rfl) (by kernel_rfl) rfl (fun _ _ _ h => h) (Or.inl ⟨by rfl, ?ya1588⟩) (fun _ => by assumption) ?ra1588
  case ya1588 => (intro w _; go_simp; first | done | (with_reducible rfl))
  try simp only [Act.put, List.setIfInBounds_toArray, List.set_cons_zero, List.set_cons_succ]
  refine takeW (i := 14) (oi := { dst := some 36, op := Op.move (Operand.tmp 4), type := 3, pos := "pattern.go:137", after := #[{ on := 13, ground := Ground.guard }], guard := some (13, false) }) (v := ?va1589) rfl (by kernel_rfl) (by kernel_rfl) (by kernel_rfl) rfl (fun _ _ _ h => h) (Or.inl ⟨by rfl, ?ya1589⟩) (fun _ => by assumption) ?ra1589
  case ya1589 => (intro w _; go_simp; first | done | (with_reducible rfl))
  try simp only [Act.put, List.setIfInBounds_toArray, List.set_cons_zero, List.set_cons_succ]
  refine takeW (i := 15) (oi := { dst := some 37, op := Op.binOp BinOp.lss 3 (Operand.tmp 36) (Operand.const (Value.int IntKind.i64 1)) 3, type := 4, pos := "pattern.go:137", after := #[{ on := 14, ground := Ground.data }, { on := 13, ground := Ground.guard }], guard := some (13, false) }) (v := ?va1590) rfl (by kernel_rfl) (by kernel_rfl) (by kernel_rfl) rfl (fun _ _ _ h => h) (Or.inl ⟨by rfl, ?ya1590⟩) (fun _ => by assumption) ?ra1590
  case ya1590 => (intro w _; go_simp; first | done | (with_reducible rfl))
  try simp only [Act.put, List.setIfInBounds_toArray, List.set_cons_zero, List.set_cons_succ]
  refine takeW (i := 16) (oi := { dst := some 38, op := Op.pick (Operand.tmp 35) (Operand.const (Value.bool true)) (Operand.tmp 37), type := 4, pos := "pattern.go:137", after := #[{ on := 13, ground := Ground.data }, { on := 15, ground := Ground.data }], guard := none }) (v := ?va1591) rfl (by kernel_rfl) (by kernel_rfl) (by kernel_rfl) rfl (fun _ _ _ h => h) (Or.inl ⟨by rfl, ?ya1591⟩) (fun _ => by assumption) ?ra1591
  case ya1591 => (intro w _; go_simp; first | done | (with_reducible rfl))
  try simp only [Act.put, List.setIfInBounds_toArray, List.set_cons_zero, List.set_cons_succ]
  refine takeW (i := 17) (oi := { dst := some 39, op := Op.move (Operand.tmp 38), type := 4, pos := "pattern.go:137", after := #[{ on := 16, ground := Ground.data }, { on := 13, ground := Ground.chain }], guard := none }) (v := ?va1592) rfl (by kernel_rfl) (by kernel_rfl) (by kernel_rfl) rfl (fun _ _ _ h => h) (Or.inl ⟨by rfl, ?ya1592⟩) (fun _ => by assumption) ?ra1592
  case ya1592 => (intro w _; go_simp; first | done | (with_reducible rfl))
  try simp only [Act.put, List.setIfInBounds_toArray, List.set_cons_zero, List.set_cons_succ]
  refine takeW (i := 18) (oi := { dst := some 40, op := Op.move (Operand.tmp 3), type := 3, pos := "pattern.go:137", after := #[{ on := 17, ground := Ground.guard }], guard := some (17, false) }) (v := ?va1593) rfl (by kernel_rfl) (by kernel_rfl) (by kernel_rfl) rfl (fun _ _ _ h => h) (Or.inl ⟨by rfl, ?ya1593⟩) (fun _ => by assumption) ?ra1593
  case ya1593 => (intro w _; go_simp; first | done | (with_reducible rfl))
  try simp only [Act.put, List.setIfInBounds_toArray, List.set_cons_zero, List.set_cons_succ]
  refine takeW (i := 19) (oi := { dst := some 41, op := Op.fieldAddr 43 (Operand.tmp 5) 1, type := 0, pos := "pattern.go:137", after := #[{ on := 17, ground := Ground.guard }], guard := some (17, false) }) (v := ?va1594) rfl (by kernel_rfl) (by kernel_rfl) (by kernel_rfl) rfl (fun _ _ _ h => h) (Or.inl ⟨by rfl, ?ya1594⟩) (fun _ => by assumption) ?ra1594
  case ya1594 => (intro w _; go_simp; first | done | (with_reducible rfl))
  try simp only [Act.put, List.setIfInBounds_toArray, List.set_cons_zero, List.set_cons_succ]
  refine takeW (i := 21) (oi := { dst := some 43, op := Op.move (Operand.tmp 2), type := 3, pos := "pattern.go:137", after := #[{ on := 17, ground := Ground.guard }], guard := some (17, false) }) (v := ?va1595) rfl (by kernel_rfl) (by kernel_rfl) (by kernel_rfl) rfl (fun _ _ _ h => h) (Or.inl ⟨by rfl, ?ya1595⟩) (fun _ => by assumption) ?ra1595
  case ya1595 => (intro w _; go_simp; first | done | (with_reducible rfl))
  try simp only [Act.put, List.setIfInBounds_toArray, List.set_cons_zero, List.set_cons_succ]
  refine takeW (i := 22) (oi := { dst := some 44, op := Op.fieldAddr 43 (Operand.tmp 5) 1, type := 0, pos := "pattern.go:137", after := #[{ on := 17, ground := Ground.guard }], guard := some (17, false) }) (v := ?va1596) rfl (by kernel_rfl) (by kernel_rfl) (by kernel_rfl) rfl (fun _ _ _ h => h) (Or.inl ⟨by rfl, ?ya1596⟩) (fun _ => by assumption) ?ra1596
  case ya1596 => (intro w _; go_simp; first | done | (with_reducible rfl))
  try simp only [Act.put, List.setIfInBounds_toArray, List.set_cons_zero, List.set_cons_succ]
  refine takeL (i := 20) (oi := { dst := some 42, op := Op.load 3 (Operand.tmp 41), type := 3, pos := "pattern.go:137", after := #[{ on := 19, ground := Ground.data }, { on := 17, ground := Ground.guard }], guard := some (17, false) }) (v := ?va1597) rfl (by kernel_rfl) (by kernel_rfl) (by kernel_rfl) (by kernel_rfl) rfl (by kernel_rfl) (by kernel_rfl) (fun _ _ _ h => h) (Or.inl ⟨by rfl, ?ya1597⟩) (by assumption) ?ra1597
  case ya1597 => (intro w hSw; (try dsimp only at hSw); go_simp; first | done | (with_reducible rfl))
  try simp only [Act.put, List.setIfInBounds_toArray, List.set_cons_zero, List.set_cons_succ]
  refine takeL (i := 23) (oi := { dst := some 45, op := Op.load 3 (Operand.tmp 44), type := 3, pos := "pattern.go:137", after := #[{ on := 22, ground := Ground.data }, { on := 17, ground := Ground.guard }], guard := some (17, false) }) (v := ?va1598) rfl (by kernel_rfl) (by kernel_rfl) (by kernel_rfl) (by kernel_rfl) rfl (by kernel_rfl) (by kernel_rfl) (fun _ _ _ h => h) (Or.inl ⟨by rfl, ?ya1598⟩) (by assumption) ?ra1598
  case ya1598 => (intro w hSw; (try dsimp only at hSw); go_simp; first | done | (with_reducible rfl))
  try simp only [Act.put, List.setIfInBounds_toArray, List.set_cons_zero, List.set_cons_succ]
  refine takeW (i := 24) (oi := { dst := some 46, op := Op.binOp BinOp.rem 3 (Operand.tmp 43) (Operand.tmp 45) 3, type := 3, pos := "pattern.go:137", after := #[{ on := 21, ground := Ground.data }, { on := 23, ground := Ground.data }, { on := 17, ground := Ground.guard }], guard := some (17, false) }) (v := ?va1599) rfl (by kernel_rfl) (by kernel_rfl) (by kernel_rfl) rfl (fun _ _ _ h => h) (Or.inl ⟨by rfl, ?ya1599⟩) (fun _ => by assumption) ?ra1599
  case ya1599 => (intro w _; go_simp; first | done | (with_reducible rfl))
  try simp only [Act.put, List.setIfInBounds_toArray, List.set_cons_zero, List.set_cons_succ]
  refine takeW (i := 25) (oi := { dst := some 47, op := Op.binOp BinOp.sub 3 (Operand.tmp 42) (Operand.tmp 46) 3, type := 3, pos := "pattern.go:137", after := #[{ on := 20, ground := Ground.data }, { on := 24, ground := Ground.data }, { on := 17, ground := Ground.guard }], guard := some (17, false) }) (v := ?va1600) rfl (by kernel_rfl) (by kernel_rfl) (by kernel_rfl) rfl (fun _ _ _ h => h) (Or.inl ⟨by rfl, ?ya1600⟩) (fun _ => by assumption) ?ra1600
  case ya1600 => (intro w _; go_simp; first | done | (with_reducible rfl))
  try simp only [Act.put, List.setIfInBounds_toArray, List.set_cons_zero, List.set_cons_succ]
  refine takeW (i := 26) (oi := { dst := some 48, op := Op.binOp BinOp.gtr 3 (Operand.tmp 40) (Operand.tmp 47) 3, type := 4, pos := "pattern.go:137", after := #[{ on := 18, ground := Ground.data }, { on := 25, ground := Ground.data }, { on := 17, ground := Ground.guard }], guard := some (17, false) }) (v := ?va1601) rfl (by kernel_rfl) (by kernel_rfl) (by kernel_rfl) rfl (fun _ _ _ h => h) (Or.inl ⟨by rfl, ?ya1601⟩) (fun _ => by assumption) ?ra1601
  case ya1601 => (intro w _; go_simp; first | done | (with_reducible rfl))
  try simp only [Act.put, List.setIfInBounds_toArray, List.set_cons_zero, List.set_cons_succ]
  refine takeW (i := 27) (oi := { dst := some 49, op := Op.pick (Operand.tmp 39) (Operand.const (Value.bool true)) (Operand.tmp 48), type := 4, pos := "pattern.go:137", after := #[{ on := 17, ground := Ground.data }, { on := 26, ground := Ground.data }], guard := none }) (v := ?va1602) rfl (by kernel_rfl) (by kernel_rfl) (by kernel_rfl) rfl (fun _ _ _ h => h) (Or.inl ⟨by rfl, ?ya1602⟩) (fun _ => by assumption) ?ra1602
  case ya1602 => (intro w _; go_simp; first | done | (with_reducible rfl))
  try simp only [Act.put, List.setIfInBounds_toArray, List.set_cons_zero, List.set_cons_succ]
  refine takeW (i := 28) (oi := { dst := some 50, op := Op.move (Operand.tmp 49), type := 4, pos := "pattern.go:137", after := #[{ on := 27, ground := Ground.data }, { on := 17, ground := Ground.chain }], guard := none }) (v := ?va1603) rfl (by kernel_rfl) (by kernel_rfl) (by kernel_rfl) rfl (fun _ _ _ h => h) (Or.inl ⟨by rfl, ?ya1603⟩) (fun _ => by assumption) ?ra1603
  case ya1603 => (intro w _; go_simp; first | done | (with_reducible rfl))
  try simp only [Act.put, List.setIfInBounds_toArray, List.set_cons_zero, List.set_cons_succ]
  refine takeW (i := 29) (oi := { dst := some 51, op := Op.move (Operand.tmp 4), type := 3, pos := "pattern.go:137", after := #[{ on := 28, ground := Ground.guard }], guard := some (28, false) }) (v := ?va1604) rfl (by kernel_rfl) (by kernel_rfl) (by kernel_rfl) rfl (fun _ _ _ h => h) (Or.inl ⟨by rfl, ?ya1604⟩) (fun _ => by assumption) ?ra1604
  case ya1604 => (intro w _; go_simp; first | done | (with_reducible rfl))
  try simp only [Act.put, List.setIfInBounds_toArray, List.set_cons_zero, List.set_cons_succ]
  refine takeW (i := 30) (oi := { dst := some 52, op := Op.fieldAddr 43 (Operand.tmp 5) 2, type := 0, pos := "pattern.go:137", after := #[{ on := 28, ground := Ground.guard }], guard := some (28, false) }) (v := ?va1605) rfl (by kernel_rfl) (by kernel_rfl) (by kernel_rfl) rfl (fun _ _ _ h => h) (Or.inl ⟨by rfl, ?ya1605⟩) (fun _ => by assumption) ?ra1605
  case ya1605 => (intro w _; go_simp; first | done | (with_reducible rfl))
  try simp only [Act.put, List.setIfInBounds_toArray, List.set_cons_zero, List.set_cons_succ]
  refine takeW (i := 32) (oi := { dst := some 54, op := Op.move (Operand.tmp 2), type := 3, pos := "pattern.go:137", after := #[{ on := 28, ground := Ground.guard }], guard := some (28, false) }) (v := ?va1606) rfl (by kernel_rfl) (by kernel_rfl) (by kernel_rfl) rfl (fun _ _ _ h => h) (Or.inl ⟨by rfl, ?ya1606⟩) (fun _ => by assumption) ?ra1606
  case ya1606 => (intro w _; go_simp; first | done | (with_reducible rfl))
  try simp only [Act.put, List.setIfInBounds_toArray, List.set_cons_zero, List.set_cons_succ]
  refine takeW (i := 33) (oi := { dst := some 55, op := Op.fieldAddr 43 (Operand.tmp 5) 1, type := 0, pos := "pattern.go:137", after := #[{ on := 28, ground := Ground.guard }], guard := some (28, false) }) (v := ?va1607) rfl (by kernel_rfl) (by kernel_rfl) (by kernel_rfl) rfl (fun _ _ _ h => h) (Or.inl ⟨by rfl, ?ya1607⟩) (fun _ => by assumption) ?ra1607
  case ya1607 => (intro w _; go_simp; first | done | (with_reducible rfl))
  try simp only [Act.put, List.setIfInBounds_toArray, List.set_cons_zero, List.set_cons_succ]
  refine takeL (i := 31) (oi := { dst := some 53, op := Op.load 3 (Operand.tmp 52), type := 3, pos := "pattern.go:137", after := #[{ on := 30, ground := Ground.data }, { on := 28, ground := Ground.guard }], guard := some (28, false) }) (v := ?va1608) rfl (by kernel_rfl) (by kernel_rfl) (by kernel_rfl) (by kernel_rfl) rfl (by kernel_rfl) (by kernel_rfl) (fun _ _ _ h => h) (Or.inl ⟨by rfl, ?ya1608⟩) (by assumption) ?ra1608
  case ya1608 => (intro w hSw; (try dsimp only at hSw); go_simp; first | done | (with_reducible rfl))
  try simp only [Act.put, List.setIfInBounds_toArray, List.set_cons_zero, List.set_cons_succ]
  refine takeL (i := 34) (oi := { dst := some 56, op := Op.load 3 (Operand.tmp 55), type := 3, pos := "pattern.go:137", after := #[{ on := 33, ground := Ground.data }, { on := 28, ground := Ground.guard }], guard := some (28, false) }) (v := ?va1609) rfl (by kernel_rfl) (by kernel_rfl) (by kernel_rfl) (by kernel_rfl) rfl (by kernel_rfl) (by kernel_rfl) (fun _ _ _ h => h) (Or.inl ⟨by rfl, ?ya1609⟩) (by assumption) ?ra1609
  case ya1609 => (intro w hSw; (try dsimp only at hSw); go_simp; first | done | (with_reducible rfl))
  try simp only [Act.put, List.setIfInBounds_toArray, List.set_cons_zero, List.set_cons_succ]
  refine takeW (i := 35) (oi := { dst := some 57, op := Op.binOp BinOp.quo 3 (Operand.tmp 54) (Operand.tmp 56) 3, type := 3, pos := "pattern.go:137", after := #[{ on := 32, ground := Ground.data }, { on := 34, ground := Ground.data }, { on := 28, ground := Ground.guard }], guard := some (28, false) }) (v := ?va1610) rfl (by kernel_rfl) (by kernel_rfl) (by kernel_rfl) rfl (fun _ _ _ h => h) (Or.inl ⟨by rfl, ?ya1610⟩) (fun _ => by assumption) ?ra1610
  case ya1610 => (intro w _; go_simp; first | done | (with_reducible rfl))
  try simp only [Act.put, List.setIfInBounds_toArray, List.set_cons_zero, List.set_cons_succ]
  refine takeW (i := 36) (oi := { dst := some 58, op := Op.binOp BinOp.sub 3 (Operand.tmp 53) (Operand.tmp 57) 3, type := 3, pos := "pattern.go:137", after := #[{ on := 31, ground := Ground.data }, { on := 35, ground := Ground.data }, { on := 28, ground := Ground.guard }], guard := some (28, false) }) (v := ?va1611) rfl (by kernel_rfl) (by kernel_rfl) (by kernel_rfl) rfl (fun _ _ _ h => h) (Or.inl ⟨by rfl, ?ya1611⟩) (fun _ => by assumption) ?ra1611
  case ya1611 => (intro w _; go_simp; first | done | (with_reducible rfl))
  try simp only [Act.put, List.setIfInBounds_toArray, List.set_cons_zero, List.set_cons_succ]
  refine takeW (i := 37) (oi := { dst := some 59, op := Op.binOp BinOp.gtr 3 (Operand.tmp 51) (Operand.tmp 58) 3, type := 4, pos := "pattern.go:137", after := #[{ on := 29, ground := Ground.data }, { on := 36, ground := Ground.data }, { on := 28, ground := Ground.guard }], guard := some (28, false) }) (v := ?va1612) rfl (by kernel_rfl) (by kernel_rfl) (by kernel_rfl) rfl (fun _ _ _ h => h) (Or.inl ⟨by rfl, ?ya1612⟩) (fun _ => by assumption) ?ra1612
  case ya1612 => (intro w _; go_simp; first | done | (with_reducible rfl))
  try simp only [Act.put, List.setIfInBounds_toArray, List.set_cons_zero, List.set_cons_succ]
  refine takeW (i := 38) (oi := { dst := some 60, op := Op.pick (Operand.tmp 50) (Operand.const (Value.bool true)) (Operand.tmp 59), type := 4, pos := "pattern.go:137", after := #[{ on := 28, ground := Ground.data }, { on := 37, ground := Ground.data }], guard := none }) (v := ?va1613) rfl (by kernel_rfl) (by kernel_rfl) (by kernel_rfl) rfl (fun _ _ _ h => h) (Or.inl ⟨by rfl, ?ya1613⟩) (fun _ => by assumption) ?ra1613
  case ya1613 => (intro w _; go_simp; first | done | (with_reducible rfl))
  try simp only [Act.put, List.setIfInBounds_toArray, List.set_cons_zero, List.set_cons_succ]
  refine doneL (by kernel_rfl) ?_ _
  refine NoPanic.normal ?_
  have HB0 := Lib.hid Bz0
  have HB1 := Lib.hid Bz1
  have HB2 := Lib.hid Bz2
  have HLz := Lib.hid Lz
  have z3 := Bz1.cell 3 rfl
  have hz2 := Bz2.lt
  clear Bz0 Bz1 Bz2 Lz hHeld HC0 HC1 HC2 HL1
  generalize wq.drew = w3 at *
  go_upto_region 7 with (fail)
  have HY0 := Lib.hid (HB0.out.alloc (.cells #[.int .i64 wd, .int .i64 ht, .slice none 0 0, .int .i64 p.turn] 45))
  have HY1 := Lib.hid (HB1.out.alloc (.cells #[.int .i64 wd, .int .i64 ht, .slice none 0 0, .int .i64 p.turn] 45))
  have HY2 := Lib.hid (HB2.out.alloc (.cells #[.int .i64 wd, .int .i64 ht, .slice none 0 0, .int .i64 p.turn] 45))
  have HY3 := Lib.hid (Box.new w3 [.int .i64 wd, .int .i64 ht, .slice none 0 0, .int .i64 p.turn] 45)
  have HYL := Lib.hid (HLz.out.alloc HLz.out.size (.cells #[.int .i64 wd, .int .i64 ht, .slice none 0 0, .int .i64 p.turn] 45))
  clear z3 HB0 HB1 HB2 HLz
  generalize (w3.alloc (.cells #[.int .i64 wd, .int .i64 ht, .slice none 0 0, .int .i64 p.turn] 45)) = w4 at *
  obtain ⟨hn, hhn⟩ : ∃ hn : Nat, ht = hn := ⟨ht.toNat, by omega⟩
  have HHN := Lib.hid (show ht.toNat = hn by omega)
  obtain ⟨i0, hi0, hi1, hi2, hi3⟩ := info_ofP info_int
  have HI0 := Lib.hid hi0
  have HI1 := Lib.hid hi1
  have HI2 := Lib.hid hi2
  have HI3 := Lib.hid hi3
  have HD1 := Lib.hid d1
  clear hi0 hi1 hi2 hi3 d1 d2 d3 d4 d5 d6 hmm hdd hwn hwz hwm hwd hw5 hw6
  obtain ⟨g, o, hac, hcells⟩ := cells_rd (HP.out.1.below HYL.out (Nat.le_refl _)) (by omega)
  subst hac
  have HCe : Hid (∀ W, Below w.heap.size w W → ∀ i, i < p.cells.length → W.cell? ⟨g, o + i, none⟩ = some (.int .i64 (p.cells.getD i 0))) := Lib.hid (fun W hW => by
    obtain ⟨g', o', e, h⟩ := cells_rd (HP.out.1.below hW (Nat.le_refl _)) (by omega)
    simp only [Option.some.injEq, Addr.mk.injEq, and_true] at e
    obtain ⟨rfl, rfl⟩ := e
    exact h)
  clear hcells
  subst hhn
  go_wp2_with fail
  go_loopw [68, 14] (fun vi vy wr => ∃ (k : Nat) (vo : Value), k ≤ hn ∧ vi = .int .i64 k ∧ Hid (Box wr w.heap.size [.string R.name, .int .i64 R.width, .int .i64 R.height, vp, vs, .bool R.falls, .bool R.keeps, ve, .int .i64 R.blocked, .int .i64 R.quiet, .int .i64 R.rept] 43) ∧ Hid (Box wr (w.heap.size + 1) [.slice (some ⟨g, o, none⟩) p.cells.length cc, v0, v1, .int .i64 p.turn, .int .i64 p.quiet] 51) ∧ Hid (Box wr (w.heap.size + 1 + 1) [.int .i64 0, .int .i64 0, .slice none 0 0, .int .i64 0] 45) ∧ Hid (Box wr w3.heap.size [.int .i64 wd, .int .i64 (hn : Int), vo, .int .i64 p.turn] 45) ∧
    Hid (wr.ownsRow (w3.heap.size + 1) 3 1 vo (cutRows R p s wd k).length (ints (cutRows R p s wd k))) ∧ Hid (Below w.heap.size w wr)) (fun i _ _ => hn - (intOf i).toNat)
  case atStart => exact ⟨0, .slice none 0 0, Nat.zero_le _, rfl, HY0, HY1, HY2, HY3, Lib.hid (World.ownsRow_nil _ _ _ _), HYL⟩
  case round =>
    obtain ⟨k, vo, hk, rfl, HR0, HR1, HR2, HR3, HO, HBr⟩ := hrel
    have hz3 := HR3.out.lt
    by_cases hlt : k < hn
    · have hltI : (k : Int) < (hn : Int) := by omega
      obtain ⟨e1, e2, e3⟩ := cut_room (R := R) (s := s) (k := k) hw hh (by omega) (by omega) (by omega)
      rw [← HPL.out] at e3
      obtain ⟨ka, hka⟩ : ∃ ka, (k : Int) * R.width = ka := ⟨_, rfl⟩
      rw [hka] at e1 e3
      have hwk : IntKind.i64.wrap ka = ka := IntWalk.i64_in _ (by omega)
      have hws : IntKind.i64.wrap (s + ka) = s + ka := IntWalk.i64_in _ (by omega)
      have hwe : IntKind.i64.wrap (s + ka + wd) = s + ka + wd := IntWalk.i64_in _ (by omega)
      have hsl : ∀ w' : World, (Instr.slice 28 (.slice (some ⟨g, o, none⟩) p.cells.length cc) (some (.int .i64 (s + ka))) (some (.int .i64 (s + ka + wd))) none).run Try.prog w' = .ok (.slice (some ⟨g, o + (s + ka).toNat, none⟩) wd.toNat (cc - (s + ka).toNat)) w' := fun w' => by
        rw [run_slice_lh (P := Try.prog) (w := w') 28 (some ⟨g, o, none⟩) p.cells.length cc Try.underlying28 .i64 .i64 (s + ka) (s + ka + wd) (by omega) (by omega) (by omega)]
        rw [show (sizeOf (Try.prog.elem 28)).run Try.prog w' = .ok 1 w' by kernel_rfl]
        simp only [Result.andThen, sliced]
        rw [if_neg (by omega), show (s + ka + wd).toNat - (s + ka).toNat = wd.toNat by omega]
        simp [add_off]
      have HCR : Hid (cutRows R p s wd (k + 1) = cutRows R p s wd k ++ (p.cells.drop (s + ka).toNat).take wd.toNat) := Lib.hid (by unfold cutRows; rw [List.range_succ, List.flatMap_append]; simp [hka])
      have HLn2 : Hid (((p.cells.drop (s + ka).toNat).take wd.toNat).length = wd.toNat) := Lib.hid (by rw [List.length_take, List.length_drop]; omega)
      have HLn : Hid ((ints ((p.cells.drop (s + ka).toNat).take wd.toNat)).length = wd.toNat * 1) := Lib.hid (by rw [ints_len, HLn2.out, Nat.mul_one])
      have hcl : (cutRows R p s wd k).length ≤ k * 64 := cut_len R p s wd k (by omega)
      have hnb : ∀ b, b < w3.heap.size + 1 → some b ≠ vo.ownBlock := fun b hb e => by have := (HO.out.lt b e.symm).1; omega
      have hwd64 : wd.toNat ≤ 64 := by omega
      have hk64 : k ≤ 64 := by omega
      go_upto_region 10 with (fail)
      generalize wr = wx at *
      have B0z : Box wx.drew w.heap.size [.string R.name, .int .i64 R.width, .int .i64 R.height, vp, vs, .bool R.falls, .bool R.keeps, ve, .int .i64 R.blocked, .int .i64 R.quiet, .int .i64 R.rept] 43 := HR0.out
      have B1z : Box wx.drew (w.heap.size + 1) [.slice (some ⟨g, o, none⟩) p.cells.length cc, v0, v1, .int .i64 p.turn, .int .i64 p.quiet] 51 := HR1.out
      have B2z : Box wx.drew (w.heap.size + 1 + 1) [.int .i64 0, .int .i64 0, .slice none 0 0, .int .i64 0] 45 := HR2.out
      have B3z : Box wx.drew w3.heap.size [.int .i64 wd, .int .i64 (hn : Int), vo, .int .i64 p.turn] 45 := HR3.out
      have Oz : wx.drew.ownsRow (w3.heap.size + 1) 3 1 vo (cutRows R p s wd k).length (ints (cutRows R p s wd k)) := HO.out
      have Lz : Below w.heap.size w wx.drew := below_drew' HBr.out
      have HSr : Hid (∀ j u, (ints ((p.cells.drop (s + ka).toNat).take wd.toNat))[j]? = some u → wx.drew.cell? ((⟨g, o + (s + ka).toNat, none⟩ : Addr).add j) = some u) := Lib.hid (fun j u hu => by
        rw [add_off, Nat.add_assoc]
        have hj := (List.getElem?_eq_some_iff.1 hu).1
        rw [ints_len, HLn2.out] at hj
        rw [HCe.out _ Lz _ (by omega)]
        rw [ints_get _ j (by rw [HLn2.out]; exact hj)] at hu
        rw [← hu]
        congr 2
        rw [List.getD_eq_getElem?_getD, List.getD_eq_getElem?_getD, List.getElem?_take, if_pos hj, List.getElem?_drop])
      clear HR0 HR1 HR2 HR3 HO HBr
      refine wp_region_noPanic ?_
      refine beginL (S := (fun w' => w'.cell? ⟨w.heap.size, 1, none⟩ = some (.int .i64 R.width) ∧ w'.cell? ⟨w.heap.size + 1, 0, none⟩ = some (.slice (some ⟨g, o, none⟩) p.cells.length cc) ∧ w'.cell? ⟨w3.heap.size, 2, none⟩ = some vo)) (L := [21]) (by kernel_rfl) ⟨B0z.cell 1 rfl, B1z.cell 0 rfl, B3z.cell 2 rfl⟩ (fun hHeld => ?_)
      refine takeW (i := 0) (oi := { dst := some 71, op := Op.fieldAddr 45 (Operand.tmp 13) 2, type := 0, pos := "pattern.go:142", after := #[], guard := none }) (v := ?va901) rfl (by kernel_rfl) (by kernel_rfl) (by kernel_rfl) rfl (fun _ _ _ h => h) (Or.inl ⟨by rfl, ?ya901⟩) (fun _ => by assumption) ?ra901
      case ya901 => (intro w _; go_simp; first | done | (with_reducible rfl))
      try simp only [Act.put, List.setIfInBounds_toArray, List.set_cons_zero, List.set_cons_succ]
      refine takeW (i := 2) (oi := { dst := some 73, op := Op.fieldAddr 51 (Operand.tmp 6) 0, type := 0, pos := "pattern.go:142", after := #[], guard := none }) (v := ?va902) rfl (by kernel_rfl) (by kernel_rfl) (by kernel_rfl) rfl (fun _ _ _ h => h) (Or.inl ⟨by rfl, ?ya902⟩) (fun _ => by assumption) ?ra902
      case ya902 => (intro w _; go_simp; first | done | (with_reducible rfl))
      try simp only [Act.put, List.setIfInBounds_toArray, List.set_cons_zero, List.set_cons_succ]
      refine takeW (i := 4) (oi := { dst := some 75, op := Op.move (Operand.tmp 2), type := 3, pos := "pattern.go:142", after := #[], guard := none }) (v := ?va903) rfl (by kernel_rfl) (by kernel_rfl) (by kernel_rfl) rfl (fun _ _ _ h => h) (Or.inl ⟨by rfl, ?ya903⟩) (fun _ => by assumption) ?ra903
      case ya903 => (intro w _; go_simp; first | done | (with_reducible rfl))
      try simp only [Act.put, List.setIfInBounds_toArray, List.set_cons_zero, List.set_cons_succ]
      refine takeW (i := 5) (oi := { dst := some 76, op := Op.move (Operand.tmp 14), type := 3, pos := "pattern.go:142", after := #[], guard := none }) (v := ?va904) rfl (by kernel_rfl) (by kernel_rfl) (by kernel_rfl) rfl (fun _ _ _ h => h) (Or.inl ⟨by rfl, ?ya904⟩) (fun _ => by assumption) ?ra904
      case ya904 => (intro w _; go_simp; first | done | (with_reducible rfl))
      try simp only [Act.put, List.setIfInBounds_toArray, List.set_cons_zero, List.set_cons_succ]
      refine takeW (i := 6) (oi := { dst := some 77, op := Op.fieldAddr 43 (Operand.tmp 5) 1, type := 0, pos := "pattern.go:142", after := #[], guard := none }) (v := ?va905) rfl (by kernel_rfl) (by kernel_rfl) (by kernel_rfl) rfl (fun _ _ _ h => h) (Or.inl ⟨by rfl, ?ya905⟩) (fun _ => by assumption) ?ra905
      case ya905 => (intro w _; go_simp; first | done | (with_reducible rfl))
      try simp only [Act.put, List.setIfInBounds_toArray, List.set_cons_zero, List.set_cons_succ]
      refine takeW (i := 10) (oi := { dst := some 81, op := Op.move (Operand.tmp 2), type := 3, pos := "pattern.go:142", after := #[], guard := none }) (v := ?va906) rfl (by kernel_rfl) (by kernel_rfl) (by kernel_rfl) rfl (fun _ _ _ h => h) (Or.inl ⟨by rfl, ?ya906⟩) (fun _ => by assumption) ?ra906
      case ya906 => (intro w _; go_simp; first | done | (with_reducible rfl))
      try simp only [Act.put, List.setIfInBounds_toArray, List.set_cons_zero, List.set_cons_succ]
      refine takeW (i := 11) (oi := { dst := some 82, op := Op.move (Operand.tmp 14), type := 3, pos := "pattern.go:142", after := #[], guard := none }) (v := ?va907) rfl (by kernel_rfl) (by kernel_rfl) (by kernel_rfl) rfl (fun _ _ _ h => h) (Or.inl ⟨by rfl, ?ya907⟩) (fun _ => by assumption) ?ra907
      case ya907 => (intro w _; go_simp; first | done | (with_reducible rfl))
      try simp only [Act.put, List.setIfInBounds_toArray, List.set_cons_zero, List.set_cons_succ]
      refine takeW (i := 12) (oi := { dst := some 83, op := Op.fieldAddr 43 (Operand.tmp 5) 1, type := 0, pos := "pattern.go:142", after := #[], guard := none }) (v := ?va908) rfl (by kernel_rfl) (by kernel_rfl) (by kernel_rfl) rfl (fun _ _ _ h => h) (Or.inl ⟨by rfl, ?ya908⟩) (fun _ => by assumption) ?ra908
      case ya908 => (intro w _; go_simp; first | done | (with_reducible rfl))
      try simp only [Act.put, List.setIfInBounds_toArray, List.set_cons_zero, List.set_cons_succ]
      refine takeW (i := 16) (oi := { dst := some 87, op := Op.move (Operand.tmp 3), type := 3, pos := "pattern.go:142", after := #[], guard := none }) (v := ?va909) rfl (by kernel_rfl) (by kernel_rfl) (by kernel_rfl) rfl (fun _ _ _ h => h) (Or.inl ⟨by rfl, ?ya909⟩) (fun _ => by assumption) ?ra909
      case ya909 => (intro w _; go_simp; first | done | (with_reducible rfl))
      try simp only [Act.put, List.setIfInBounds_toArray, List.set_cons_zero, List.set_cons_succ]
      refine takeL (i := 1) (oi := { dst := some 72, op := Op.load 28 (Operand.tmp 71), type := 28, pos := "pattern.go:142", after := #[{ on := 0, ground := Ground.data }], guard := none }) (v := ?va910) rfl (by kernel_rfl) (by kernel_rfl) (by kernel_rfl) (by kernel_rfl) rfl (by kernel_rfl) (by kernel_rfl) (fun _ _ _ h => h) (Or.inl ⟨by rfl, ?ya910⟩) (by assumption) ?ra910
      case ya910 => (intro w hSw; (try dsimp only at hSw); go_simp; first | done | (with_reducible rfl))
      try simp only [Act.put, List.setIfInBounds_toArray, List.set_cons_zero, List.set_cons_succ]
      refine takeL (i := 3) (oi := { dst := some 74, op := Op.load 28 (Operand.tmp 73), type := 28, pos := "pattern.go:142", after := #[{ on := 2, ground := Ground.data }], guard := none }) (v := ?va911) rfl (by kernel_rfl) (by kernel_rfl) (by kernel_rfl) (by kernel_rfl) rfl (by kernel_rfl) (by kernel_rfl) (fun _ _ _ h => h) (Or.inl ⟨by rfl, ?ya911⟩) (by assumption) ?ra911
      case ya911 => (intro w hSw; (try dsimp only at hSw); go_simp; first | done | (with_reducible rfl))
      try simp only [Act.put, List.setIfInBounds_toArray, List.set_cons_zero, List.set_cons_succ]
      refine takeL (i := 7) (oi := { dst := some 78, op := Op.load 3 (Operand.tmp 77), type := 3, pos := "pattern.go:142", after := #[{ on := 6, ground := Ground.data }], guard := none }) (v := ?va912) rfl (by kernel_rfl) (by kernel_rfl) (by kernel_rfl) (by kernel_rfl) rfl (by kernel_rfl) (by kernel_rfl) (fun _ _ _ h => h) (Or.inl ⟨by rfl, ?ya912⟩) (by assumption) ?ra912
      case ya912 => (intro w hSw; (try dsimp only at hSw); go_simp; first | done | (with_reducible rfl))
      try simp only [Act.put, List.setIfInBounds_toArray, List.set_cons_zero, List.set_cons_succ]
      refine takeL (i := 13) (oi := { dst := some 84, op := Op.load 3 (Operand.tmp 83), type := 3, pos := "pattern.go:142", after := #[{ on := 12, ground := Ground.data }], guard := none }) (v := ?va913) rfl (by kernel_rfl) (by kernel_rfl) (by kernel_rfl) (by kernel_rfl) rfl (by kernel_rfl) (by kernel_rfl) (fun _ _ _ h => h) (Or.inl ⟨by rfl, ?ya913⟩) (by assumption) ?ra913
      case ya913 => (intro w hSw; (try dsimp only at hSw); go_simp; first | done | (with_reducible rfl))
      try simp only [Act.put, List.setIfInBounds_toArray, List.set_cons_zero, List.set_cons_succ]
      refine takeW (i := 8) (oi := { dst := some 79, op := Op.binOp BinOp.mul 3 (Operand.tmp 76) (Operand.tmp 78) 3, type := 3, pos := "pattern.go:142", after := #[{ on := 5, ground := Ground.data }, { on := 7, ground := Ground.data }], guard := none }) (v := ?va914) rfl (by kernel_rfl) (by kernel_rfl) (by kernel_rfl) rfl (fun _ _ _ h => h) (Or.inl ⟨by rfl, ?ya914⟩) (fun _ => by assumption) ?ra914
      case ya914 => (intro w _; go_simp; first | done | (with_reducible rfl))
      try simp only [Act.put, List.setIfInBounds_toArray, List.set_cons_zero, List.set_cons_succ]
      refine takeW (i := 14) (oi := { dst := some 85, op := Op.binOp BinOp.mul 3 (Operand.tmp 82) (Operand.tmp 84) 3, type := 3, pos := "pattern.go:142", after := #[{ on := 11, ground := Ground.data }, { on := 13, ground := Ground.data }], guard := none }) (v := ?va915) rfl (by kernel_rfl) (by kernel_rfl) (by kernel_rfl) rfl (fun _ _ _ h => h) (Or.inl ⟨by rfl, ?ya915⟩) (fun _ => by assumption) ?ra915
      case ya915 => (intro w _; go_simp; first | done | (with_reducible rfl))
      try simp only [Act.put, List.setIfInBounds_toArray, List.set_cons_zero, List.set_cons_succ]
      refine takeW (i := 9) (oi := { dst := some 80, op := Op.binOp BinOp.add 3 (Operand.tmp 75) (Operand.tmp 79) 3, type := 3, pos := "pattern.go:142", after := #[{ on := 4, ground := Ground.data }, { on := 8, ground := Ground.data }], guard := none }) (v := ?va916) rfl (by kernel_rfl) (by kernel_rfl) (by kernel_rfl) rfl (fun _ _ _ h => h) (Or.inl ⟨by rfl, ?ya916⟩) (fun _ => by assumption) ?ra916
      case ya916 => (intro w _; go_simp; first | done | (with_reducible rfl))
      try simp only [Act.put, List.setIfInBounds_toArray, List.set_cons_zero, List.set_cons_succ]
      refine takeW (i := 15) (oi := { dst := some 86, op := Op.binOp BinOp.add 3 (Operand.tmp 81) (Operand.tmp 85) 3, type := 3, pos := "pattern.go:142", after := #[{ on := 10, ground := Ground.data }, { on := 14, ground := Ground.data }], guard := none }) (v := ?va917) rfl (by kernel_rfl) (by kernel_rfl) (by kernel_rfl) rfl (fun _ _ _ h => h) (Or.inl ⟨by rfl, ?ya917⟩) (fun _ => by assumption) ?ra917
      case ya917 => (intro w _; go_simp; first | done | (with_reducible rfl))
      try simp only [Act.put, List.setIfInBounds_toArray, List.set_cons_zero, List.set_cons_succ]
      refine takeW (i := 17) (oi := { dst := some 88, op := Op.binOp BinOp.add 3 (Operand.tmp 86) (Operand.tmp 87) 3, type := 3, pos := "pattern.go:142", after := #[{ on := 15, ground := Ground.data }, { on := 16, ground := Ground.data }], guard := none }) (v := ?va918) rfl (by kernel_rfl) (by kernel_rfl) (by kernel_rfl) rfl (fun _ _ _ h => h) (Or.inl ⟨by rfl, ?ya918⟩) (fun _ => by assumption) ?ra918
      case ya918 => (intro w _; go_simp; first | done | (with_reducible rfl))
      try simp only [Act.put, List.setIfInBounds_toArray, List.set_cons_zero, List.set_cons_succ]
      refine takeW (i := 18) (oi := { dst := some 89, op := Op.slice 28 (Operand.tmp 74) (some (Operand.tmp 80)) (some (Operand.tmp 88)) none, type := 28, pos := "pattern.go:142", after := #[{ on := 3, ground := Ground.data }, { on := 9, ground := Ground.data }, { on := 17, ground := Ground.data }], guard := none }) (v := ?va919) rfl (by kernel_rfl) (by kernel_rfl) (by kernel_rfl) rfl (fun _ _ _ h => h) (Or.inl ⟨by rfl, ?ya919⟩) (fun _ => by assumption) ?ra919
      case ya919 => (intro w _; go_simp; first | done | (with_reducible rfl))
      try simp only [Act.put, List.setIfInBounds_toArray, List.set_cons_zero, List.set_cons_succ]
      refine readyL (rs := [19]) (by kernel_rfl) (by simp) ?_
      refine (AllReadyL.cons (o := { dst := some 90, op := Op.call { callee := Callee.builtin Builtin.append, args := #[Operand.tmp 72, Operand.tmp 89], argTypes := #[28, 28] }, type := 28, pos := "pattern.go:142", after := #[{ on := 1, ground := Ground.data }, { on := 18, ground := Ground.data }], guard := none }) rfl (fun K hK => ?_) AllReadyL.nil)
      rw [if_pos (by rfl)]
      refine wp_append_own _ _ _ 28 rfl (w3.heap.size + 1) 3 i0 (.int .i64 0) 1 8 Try.underlying28 HI0.out HI1.out HI2.out HI3.out rfl (by decide) vo (cutRows R p s wd k).length (ints (cutRows R p s wd k)) rfl Oz ⟨g, o + (s + ka).toNat, none⟩ wd.toNat (cc - (s + ka).toNat) (ints ((p.cells.drop (s + ka).toNat).take wd.toNat)) rfl HLn.out HSr.out (ints_cell1 _) (by unfold maxLen; omega) (by omega) (by have := B3z.lt; omega) ?_
      intro v9 w9 ho9 hg9 _
      obtain ⟨oa9, oc9, rfl⟩ := own_form2 ho9
      have B09 := B0z.grown hg9 (hnb _ (by omega))
      have B19 := B1z.grown hg9 (hnb _ (by omega))
      have B29 := B2z.grown hg9 (hnb _ (by omega))
      have B39 := B3z.grown hg9 (hnb _ (by omega))
      have L9 := Below.grown Lz hg9 Lz.size (fun q hq => by have := (Oz.lt q hq).1; omega)
      have Z9 := hg9.size
      have O9 := ho9
      clear ho9 hg9
      refine hK.out _ _ ⟨B09.cell 1 rfl, B19.cell 0 rfl, B39.cell 2 rfl⟩ (fun hHeld => ?_)
      clear hK K
      try simp only [Act.put, List.setIfInBounds_toArray, List.set_cons_zero, List.set_cons_succ]
      refine takeW (i := 20) (oi := { dst := some 91, op := Op.fieldAddr 45 (Operand.tmp 13) 2, type := 0, pos := "pattern.go:142", after := #[{ on := 0, ground := Ground.phase }, { on := 1, ground := Ground.phase }, { on := 2, ground := Ground.phase }, { on := 3, ground := Ground.phase }, { on := 4, ground := Ground.phase }, { on := 5, ground := Ground.phase }, { on := 6, ground := Ground.phase }, { on := 7, ground := Ground.phase }, { on := 8, ground := Ground.phase }, { on := 9, ground := Ground.phase }, { on := 10, ground := Ground.phase }, { on := 11, ground := Ground.phase }, { on := 12, ground := Ground.phase }, { on := 13, ground := Ground.phase }, { on := 14, ground := Ground.phase }, { on := 15, ground := Ground.phase }, { on := 16, ground := Ground.phase }, { on := 17, ground := Ground.phase }, { on := 18, ground := Ground.phase }, { on := 19, ground := Ground.phase }], guard := none }) (v := ?va920) rfl (by kernel_rfl) (by kernel_rfl) (by kernel_rfl) rfl (fun _ _ _ h => h) (Or.inl ⟨by rfl, ?ya920⟩) (fun _ => by assumption) ?ra920
      case ya920 => (intro w _; go_simp; first | done | (with_reducible rfl))
      try simp only [Act.put, List.setIfInBounds_toArray, List.set_cons_zero, List.set_cons_succ]
      refine readyL (rs := [21]) (by kernel_rfl) (by simp) ?_
      refine (AllReadyL.late (o := { dst := none, op := Op.store 28 (Operand.tmp 91) (Operand.tmp 90), type := 0, pos := "pattern.go:142", after := #[{ on := 20, ground := Ground.data }, { on := 19, ground := Ground.data }, { on := 19, ground := Ground.chain }, { on := 0, ground := Ground.phase }, { on := 1, ground := Ground.phase }, { on := 2, ground := Ground.phase }, { on := 3, ground := Ground.phase }, { on := 4, ground := Ground.phase }, { on := 5, ground := Ground.phase }, { on := 6, ground := Ground.phase }, { on := 7, ground := Ground.phase }, { on := 8, ground := Ground.phase }, { on := 9, ground := Ground.phase }, { on := 10, ground := Ground.phase }, { on := 11, ground := Ground.phase }, { on := 12, ground := Ground.phase }, { on := 13, ground := Ground.phase }, { on := 14, ground := Ground.phase }, { on := 15, ground := Ground.phase }, { on := 16, ground := Ground.phase }, { on := 17, ground := Ground.phase }, { on := 18, ground := Ground.phase }, { on := 19, ground := Ground.phase }], guard := none }) rfl (by kernel_rfl) (fun K hK => ?_) AllReadyL.nil)
      have dd := B39.cell 2 rfl
      have df := B39.frozen 2
      go_simp
      refine K_world ?_
      intro w10 e10
      have E10 := Lib.hid e10
      clear e10 dd df
      refine hK.out _ _ ?_
      clear hK K
      try simp only [Act.put, List.setIfInBounds_toArray, List.set_cons_zero, List.set_cons_succ]
      refine doneL (by kernel_rfl) ?_ _
      refine NoPanic.normal ?_
      have B310 : Box w10 w3.heap.size [.int .i64 wd, .int .i64 (hn : Int), .slice oa9 ((cutRows R p s wd k).length + wd.toNat) oc9, .int .i64 p.turn] 45 := by rw [E10.out]; exact B39.set 2 _
      have B010 : Box w10 (w.heap.size) [.string R.name, .int .i64 R.width, .int .i64 R.height, vp, vs, .bool R.falls, .bool R.keeps, ve, .int .i64 R.blocked, .int .i64 R.quiet, .int .i64 R.rept] 43 := by rw [E10.out]; exact B09.far ⟨w3.heap.size, 2, none⟩ _ (by show ¬ w.heap.size = w3.heap.size; omega)
      have B110 : Box w10 (w.heap.size + 1) [.slice (some ⟨g, o, none⟩) p.cells.length cc, v0, v1, .int .i64 p.turn, .int .i64 p.quiet] 51 := by rw [E10.out]; exact B19.far ⟨w3.heap.size, 2, none⟩ _ (by show ¬ w.heap.size + 1 = w3.heap.size; omega)
      have B210 : Box w10 (w.heap.size + 1 + 1) [.int .i64 0, .int .i64 0, .slice none 0 0, .int .i64 0] 45 := by rw [E10.out]; exact B29.far ⟨w3.heap.size, 2, none⟩ _ (by show ¬ w.heap.size + 1 + 1 = w3.heap.size; omega)
      have O10 : w10.ownsRow (w3.heap.size + 1) 3 1 (.slice oa9 ((cutRows R p s wd k).length + wd.toNat) oc9) (cutRows R p s wd (k + 1)).length (ints (cutRows R p s wd (k + 1))) := by rw [E10.out, HCR.out, ← ints_app, List.length_append, HLn2.out]; exact ownsRow_setCell_below O9 (a := ⟨w3.heap.size, 2, none⟩) (Nat.lt_succ_self _) (.slice oa9 ((cutRows R p s wd k).length + wd.toNat) oc9)
      have L10 : Below w.heap.size w w10 := by rw [E10.out]; exact L9.setCell (by show w.heap.size ≤ w3.heap.size; omega) _
      have HA0 := Lib.hid B010
      have HA1 := Lib.hid B110
      have HA2 := Lib.hid B210
      have HA3 := Lib.hid B310
      have HAO := Lib.hid O10
      have HAL := Lib.hid L10
      clear B310 B010 B110 B210 O10 L10 E10 B09 B19 B29 B39 L9 O9 B0z B1z B2z B3z Lz Oz hHeld
      go_wp2_with fail
      go_roundw
      case rel => exact ⟨k + 1, (.slice oa9 ((cutRows R p s wd k).length + wd.toNat) oc9), by omega, by go_num, HA0, HA1, HA2, HA3, HAO, HAL⟩
      case measure => simp [intOf]; omega
    · obtain rfl : k = hn := by omega
      go_upto_region 12 with (fail)
      refine wp_region_lit ?_
      refine wpList_load_box (by rfl) 45 (.tmp 13) (by rfl) w3.heap.size (by rfl) HR3.out Try.underlying45 (by rfl) (by kernel_rfl) ?_
      obtain ⟨oa, oc, rfl⟩ := own_form2 HO.out
      refine wpList_store_box (vs := [.int .i64 wd, .int .i64 (k : Int), .slice oa (cutRows R p s wd k).length oc, .int .i64 p.turn]) (by rfl) 45 (.tmp 10) (.tmp 93) (by rfl) (w.heap.size + 1 + 1) (by rfl) (by rfl) HR2.out rfl (by kernel_rfl) (by rfl) ?_
      have HSx := Lib.hid (HR2.out.store (vs := [.int .i64 wd, .int .i64 (k : Int), .slice oa (cutRows R p s wd k).length oc, .int .i64 p.turn]) rfl)
      have HOx := Lib.hid (own_setCells HO.out (show w.heap.size + 1 + 1 < w3.heap.size + 1 by omega) 0 [.int .i64 wd, .int .i64 (k : Int), .slice oa (cutRows R p s wd k).length oc, .int .i64 p.turn])
      have HLx := Lib.hid (below_setCells HBr.out (show w.heap.size ≤ w.heap.size + 1 + 1 by omega) 0 [.int .i64 wd, .int .i64 (k : Int), .slice oa (cutRows R p s wd k).length oc, .int .i64 p.turn])
      generalize (wr.setCells (w.heap.size + 1 + 1) 0 [.int .i64 wd, .int .i64 (k : Int), .slice oa (cutRows R p s wd k).length oc, .int .i64 p.turn]) = wf at *
      go_wp2_with fail
      exact bodyPost_ret (results_box rfl (by rfl) (by rfl) HSx.out Try.underlying45 (by rfl) (by kernel_rfl)) rfl (.inr ⟨HE.out, HPE.out, _, rfl, own_base (by rw [Int.toNat_natCast]; exact HOx.out) (by omega), HLx.out⟩)

end Go.Proofs.Ythddenadehhbdaa
