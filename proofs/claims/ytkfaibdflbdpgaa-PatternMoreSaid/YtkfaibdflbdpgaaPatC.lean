/- The contracts of pattern.check and pattern.At. -/
import Derived.Test.YtkfaibdflbdpgaaPatB
namespace Go.Proofs.Ytkfaibdflbdpgaa
open Go.ChangeShapes Go.WideShapes Go.ChangeAt Go.RowKit
set_option linter.unusedVariables false

def chkErr (R : RulesZ) (x : PatZ) (p : PosZ) : Int := if patErr R x ≠ 0 then patErr R x else posErr R p
theorem RdI.alloc {w : World} {v : Value} {zs : List Int} (h : RdI w v zs) (o : Obj) : RdI (w.alloc o) v zs := h.below ((Below.refl _ _).alloc (Nat.le_refl _) _) (Nat.le_refl _)
set_option maxRecDepth 100000 in
set_option maxHeartbeats 4000000 in
theorem patcheck_any (R : RulesZ) (vp vs ve : Value) (x : PatZ) (vx : Value) (p : PosZ) (vc v0 v1 : Value) (w : World) (h : RdR w R vp vs ve) (hnm : R.name.size ≤ maxLen) (hx : RdI w vx x.cells) (hp : RdP w p vc v0 v1) :
    Calls Try.prog 144 #[(.agg #[.string R.name, .int .i64 R.width, .int .i64 R.height, vp, vs, .bool R.falls, .bool R.keeps, ve, .int .i64 R.blocked, .int .i64 R.quiet, .int .i64 R.rept]), (.agg #[.int .i64 x.width, .int .i64 x.height, vx, .int .i64 x.turn]), (.agg #[vc, v0, v1, .int .i64 p.turn, .int .i64 p.quiet])] w fun e w' => e = .returned (.int .i64 (chkErr R x p)) ∧ Below w.heap.size w w' := by
  have HR := Lib.hid h
  have HX := Lib.hid hx
  have HP := Lib.hid hp
  have HN := Lib.hid hnm
  have HC : Hid (chkErr R x p = if patErr R x ≠ 0 then patErr R x else posErr R p) := Lib.hid rfl
  clear h hp hnm hx
  go_enter Try.func144, Try.ntmps144
  go_wp2_with fail
  refine (patCheck_any R vp vs ve x vx _ (((HR.out.alloc _).alloc _).alloc _) HN.out (((HX.out.alloc _).alloc _).alloc _)).mono ?_
  rintro e w1 ⟨rfl, hb1⟩
  have hs1 := hb1.size
  simp at hs1
  have z0 : w.heap.size < w1.heap.size := by omega
  have z1 : w.heap.size + 1 < w1.heap.size := by omega
  have z2 : w.heap.size + 1 + 1 < w1.heap.size := by omega
  have q0 : w1.cell? ⟨w.heap.size, 0, none⟩ = some (.string R.name) := (hb1.cell (by go_size)).trans (by simp [go_sem])
  have q1 : w1.cell? ⟨w.heap.size, 1, none⟩ = some (.int .i64 R.width) := (hb1.cell (by go_size)).trans (by simp [go_sem])
  have q2 : w1.cell? ⟨w.heap.size, 2, none⟩ = some (.int .i64 R.height) := (hb1.cell (by go_size)).trans (by simp [go_sem])
  have q3 : w1.cell? ⟨w.heap.size, 3, none⟩ = some vp := (hb1.cell (by go_size)).trans (by simp [go_sem])
  have q4 : w1.cell? ⟨w.heap.size, 4, none⟩ = some vs := (hb1.cell (by go_size)).trans (by simp [go_sem])
  have q5 : w1.cell? ⟨w.heap.size, 5, none⟩ = some (.bool R.falls) := (hb1.cell (by go_size)).trans (by simp [go_sem])
  have q6 : w1.cell? ⟨w.heap.size, 6, none⟩ = some (.bool R.keeps) := (hb1.cell (by go_size)).trans (by simp [go_sem])
  have q7 : w1.cell? ⟨w.heap.size, 7, none⟩ = some ve := (hb1.cell (by go_size)).trans (by simp [go_sem])
  have q8 : w1.cell? ⟨w.heap.size, 8, none⟩ = some (.int .i64 R.blocked) := (hb1.cell (by go_size)).trans (by simp [go_sem])
  have q9 : w1.cell? ⟨w.heap.size, 9, none⟩ = some (.int .i64 R.quiet) := (hb1.cell (by go_size)).trans (by simp [go_sem])
  have q10 : w1.cell? ⟨w.heap.size, 10, none⟩ = some (.int .i64 R.rept) := (hb1.cell (by go_size)).trans (by simp [go_sem])
  have x0 : w1.cell? ⟨w.heap.size + 1, 0, none⟩ = some (.int .i64 x.width) := (hb1.cell (by go_size)).trans (by simp [go_sem])
  have x1 : w1.cell? ⟨w.heap.size + 1, 1, none⟩ = some (.int .i64 x.height) := (hb1.cell (by go_size)).trans (by simp [go_sem])
  have x2 : w1.cell? ⟨w.heap.size + 1, 2, none⟩ = some vx := (hb1.cell (by go_size)).trans (by simp [go_sem])
  have x3 : w1.cell? ⟨w.heap.size + 1, 3, none⟩ = some (.int .i64 x.turn) := (hb1.cell (by go_size)).trans (by simp [go_sem])
  have p0 : w1.cell? ⟨w.heap.size + 1 + 1, 0, none⟩ = some vc := (hb1.cell (by go_size)).trans (by simp [go_sem])
  have p1 : w1.cell? ⟨w.heap.size + 1 + 1, 1, none⟩ = some v0 := (hb1.cell (by go_size)).trans (by simp [go_sem])
  have p2 : w1.cell? ⟨w.heap.size + 1 + 1, 2, none⟩ = some v1 := (hb1.cell (by go_size)).trans (by simp [go_sem])
  have p3 : w1.cell? ⟨w.heap.size + 1 + 1, 3, none⟩ = some (.int .i64 p.turn) := (hb1.cell (by go_size)).trans (by simp [go_sem])
  have p4 : w1.cell? ⟨w.heap.size + 1 + 1, 4, none⟩ = some (.int .i64 p.quiet) := (hb1.cell (by go_size)).trans (by simp [go_sem])
  have HB : Hid (Below w.heap.size w w1) := Lib.hid (((((Below.refl _ _).alloc (Nat.le_refl _) _).alloc (by go_size) _).alloc (by go_size) _).trans (hb1.mono (by go_size)))
  clear hb1 hs1
  cases t1 : (patErr R x == 0)
  · have t1' : (patErr R x != 0) = true := by simp [bne, t1]
    have HE : Hid (chkErr R x p = patErr R x) := Lib.hid (by rw [HC.out, if_pos (by simpa using t1)])
    go_wp2_with fail
    go_ret
    exact ⟨by rw [HE.out]; rfl, HB.out⟩
  have t1' : (patErr R x != 0) = false := by simp [bne, t1]
  have HZ : Hid (patErr R x = 0) := Lib.hid (by simpa using t1)
  have HE : Hid (chkErr R x p = posErr R p) := Lib.hid (by rw [HC.out, if_neg (by simp [HZ.out])])
  clear t1 HC
  go_wp2_with fail
  refine (placeCheck_any R vp vs ve p vc v0 v1 _ (HR.out.below HB.out (Nat.le_refl _)) HN.out (HP.out.below HB.out (Nat.le_refl _))).mono ?_
  rintro e w2 ⟨rfl, hb2⟩
  have HB2 := Lib.hid (below_trans HB.out hb2 HB.out.size)
  clear hb2
  go_wp2_with fail
  go_ret
  exact ⟨by rw [HE.out]; rfl, HB2.out⟩

/-! ### what a check that is passed says -/
theorem patOk {R : RulesZ} {x : PatZ} (h : patErr R x = 0) : rulesErr R = 0 ∧ (1 ≤ x.width ∧ x.width ≤ R.width) ∧ (1 ≤ x.height ∧ x.height ≤ R.height) ∧ (x.cells.length : Int) = x.width * x.height ∧
    (∀ c ∈ x.cells, -3 ≤ c ∧ c ≤ 2 * (R.pieces.length : Int)) ∧ (-1 ≤ x.turn ∧ x.turn ≤ 1) := by
  unfold patErr at h
  by_cases e1 : rulesErr R ≠ 0
  · rw [if_pos e1] at h; exact absurd h e1
  rw [if_neg e1] at h
  by_cases e2 : wb x.width 1 R.width = false ∨ wb x.height 1 R.height = false
  · rw [if_pos e2] at h; cases h
  rw [if_neg e2] at h
  by_cases e3 : (x.cells.length : Int) ≠ x.width * x.height
  · rw [if_pos e3] at h; cases h
  rw [if_neg e3] at h
  by_cases e4 : x.cells.any (fun z => !wb z (-3) (2 * (R.pieces.length : Int))) = true
  · rw [if_pos e4] at h; cases h
  rw [if_neg e4] at h
  by_cases e5 : wb x.turn (-1) 1 = false
  · rw [if_pos e5] at h; cases h
  have hw : wb x.width 1 R.width = true := by cases hb : wb x.width 1 R.width <;> simp_all
  have hh : wb x.height 1 R.height = true := by cases hb : wb x.height 1 R.height <;> simp_all
  have ht : wb x.turn (-1) 1 = true := by cases hb : wb x.turn (-1) 1 <;> simp_all
  refine ⟨by omega, (wb_iff _ _ _).1 hw, (wb_iff _ _ _).1 hh, by omega, fun c hc => ?_, (wb_iff _ _ _).1 ht⟩
  have := e4
  simp only [List.any_eq_true, not_exists, not_and, Bool.not_eq_true] at this
  have h1 := this c hc
  exact (wb_iff _ _ _).1 (by cases hb : wb c (-3) (2 * (R.pieces.length : Int)) <;> simp_all)
theorem posOk {R : RulesZ} {p : PosZ} (h : posErr R p = 0) : rulesErr R = 0 ∧ (p.cells.length : Int) = R.width * R.height ∧ p.h0.length = R.pieces.length ∧ p.h1.length = R.pieces.length ∧
    (∀ c ∈ p.cells, 0 ≤ c ∧ c ≤ 2 * (R.pieces.length : Int)) ∧ (∀ c ∈ p.h0, 0 ≤ c ∧ c ≤ 1000) ∧ (∀ c ∈ p.h1, 0 ≤ c ∧ c ≤ 1000) ∧ (p.turn = 0 ∨ p.turn = 1) ∧ (0 ≤ p.quiet ∧ p.quiet ≤ 200) := by
  unfold posErr at h
  by_cases e1 : rulesErr R ≠ 0
  · rw [if_pos e1] at h; exact absurd h e1
  rw [if_neg e1] at h
  unfold soundErr at h
  by_cases e2 : (p.cells.length : Int) ≠ R.width * R.height ∨ p.h0.length ≠ R.pieces.length ∨ p.h1.length ≠ R.pieces.length
  · rw [if_pos e2] at h; cases h
  rw [if_neg e2] at h
  by_cases e3 : p.cells.any (fun z => !wb z 0 (2 * (R.pieces.length : Int))) = true ∨ (p.h0 ++ p.h1).any (fun z => !wb z 0 1000) = true ∨ (p.turn ≠ 0 ∧ p.turn ≠ 1) ∨ p.quiet < 0 ∨ 200 < p.quiet
  · rw [if_pos e3] at h; cases h
  simp only [not_or] at e2 e3
  obtain ⟨e31, e32, e33, e34, e35⟩ := e3
  have all : ∀ (l : List Int) (lo hi : Int), ¬ l.any (fun z => !wb z lo hi) = true → ∀ c ∈ l, lo ≤ c ∧ c ≤ hi := by
    intro l lo hi hl c hc
    simp only [List.any_eq_true, not_exists, not_and, Bool.not_eq_true] at hl
    have h1 := hl c hc
    exact (wb_iff _ _ _).1 (by cases hb : wb c lo hi <;> simp_all)
  have hh := all (p.h0 ++ p.h1) 0 1000 e32
  exact ⟨by omega, by omega, by omega, by omega, all p.cells 0 _ e31, fun c hc => hh c (List.mem_append_left _ hc), fun c hc => hh c (List.mem_append_right _ hc), by omega, by omega⟩
theorem fit_of {R : RulesZ} {x : PatZ} {p : PosZ} {s : Int} (hx : patErr R x = 0) (hp : posErr R p = 0) (h0 : 0 ≤ s) (h1 : s < p.cells.length) : Fit R x p s := by
  obtain ⟨hr, xw, xh, xl, _, _⟩ := patOk hx
  obtain ⟨_, pl, _, _, pc, _⟩ := posOk hp
  obtain ⟨hw, hh, hn⟩ := rulesOk hr
  exact ⟨hw, hh, by omega, by omega, xl, pl, fun c hc => by have := pc c hc; omega, by omega⟩

def AtPost (R : RulesZ) (x : PatZ) (p : PosZ) (s : Int) (w : World) (e : Ending) (w' : World) : Prop :=
  e = .returned (.tuple #[.bool (if chkErr R x p = 0 ∧ 0 ≤ s ∧ s < p.cells.length then atZ R x p s else false), .int .i64 (if chkErr R x p ≠ 0 then chkErr R x p else if 0 ≤ s ∧ s < p.cells.length then 0 else 1)]) ∧ Below w.heap.size w w'
set_option maxRecDepth 100000 in
set_option maxHeartbeats 4000000 in
theorem At_any (R : RulesZ) (vp vs ve : Value) (x : PatZ) (vx : Value) (p : PosZ) (vc v0 v1 : Value) (s : Int) (w : World) (h : RdR w R vp vs ve) (hnm : R.name.size ≤ maxLen) (hx : RdI w vx x.cells) (hp : RdP w p vc v0 v1) :
    Calls Try.prog 87 #[(.agg #[.string R.name, .int .i64 R.width, .int .i64 R.height, vp, vs, .bool R.falls, .bool R.keeps, ve, .int .i64 R.blocked, .int .i64 R.quiet, .int .i64 R.rept]), (.agg #[.int .i64 x.width, .int .i64 x.height, vx, .int .i64 x.turn]), (.agg #[vc, v0, v1, .int .i64 p.turn, .int .i64 p.quiet]), .int .i64 s] w (AtPost R x p s w) := by
  have HR := Lib.hid h
  have HX := Lib.hid hx
  have HP := Lib.hid hp
  have HN := Lib.hid hnm
  obtain ⟨ac, cc, rfl, hc1, hc2⟩ := hp.1.form
  unfold maxLen at hc2
  clear h hp hnm hx
  go_enter Try.func87, Try.ntmps87
  go_wp2_with fail
  refine (patcheck_any R vp vs ve x vx p _ v0 v1 _ (((HR.out.alloc _).alloc _).alloc _) HN.out (((HX.out.alloc _).alloc _).alloc _) (((HP.out.alloc _).alloc _).alloc _)).mono ?_
  rintro e w1 ⟨rfl, hb1⟩
  have hs1 := hb1.size
  simp at hs1
  have z0 : w.heap.size < w1.heap.size := by omega
  have z1 : w.heap.size + 1 < w1.heap.size := by omega
  have z2 : w.heap.size + 1 + 1 < w1.heap.size := by omega
  have q0 : w1.cell? ⟨w.heap.size, 0, none⟩ = some (.string R.name) := (hb1.cell (by go_size)).trans (by simp [go_sem])
  have q1 : w1.cell? ⟨w.heap.size, 1, none⟩ = some (.int .i64 R.width) := (hb1.cell (by go_size)).trans (by simp [go_sem])
  have q2 : w1.cell? ⟨w.heap.size, 2, none⟩ = some (.int .i64 R.height) := (hb1.cell (by go_size)).trans (by simp [go_sem])
  have q3 : w1.cell? ⟨w.heap.size, 3, none⟩ = some vp := (hb1.cell (by go_size)).trans (by simp [go_sem])
  have q4 : w1.cell? ⟨w.heap.size, 4, none⟩ = some vs := (hb1.cell (by go_size)).trans (by simp [go_sem])
  have q5 : w1.cell? ⟨w.heap.size, 5, none⟩ = some (.bool R.falls) := (hb1.cell (by go_size)).trans (by simp [go_sem])
  have q6 : w1.cell? ⟨w.heap.size, 6, none⟩ = some (.bool R.keeps) := (hb1.cell (by go_size)).trans (by simp [go_sem])
  have q7 : w1.cell? ⟨w.heap.size, 7, none⟩ = some ve := (hb1.cell (by go_size)).trans (by simp [go_sem])
  have q8 : w1.cell? ⟨w.heap.size, 8, none⟩ = some (.int .i64 R.blocked) := (hb1.cell (by go_size)).trans (by simp [go_sem])
  have q9 : w1.cell? ⟨w.heap.size, 9, none⟩ = some (.int .i64 R.quiet) := (hb1.cell (by go_size)).trans (by simp [go_sem])
  have q10 : w1.cell? ⟨w.heap.size, 10, none⟩ = some (.int .i64 R.rept) := (hb1.cell (by go_size)).trans (by simp [go_sem])
  have x0 : w1.cell? ⟨w.heap.size + 1, 0, none⟩ = some (.int .i64 x.width) := (hb1.cell (by go_size)).trans (by simp [go_sem])
  have x1 : w1.cell? ⟨w.heap.size + 1, 1, none⟩ = some (.int .i64 x.height) := (hb1.cell (by go_size)).trans (by simp [go_sem])
  have x2 : w1.cell? ⟨w.heap.size + 1, 2, none⟩ = some vx := (hb1.cell (by go_size)).trans (by simp [go_sem])
  have x3 : w1.cell? ⟨w.heap.size + 1, 3, none⟩ = some (.int .i64 x.turn) := (hb1.cell (by go_size)).trans (by simp [go_sem])
  have p0 : w1.cell? ⟨w.heap.size + 1 + 1, 0, none⟩ = some (.slice ac p.cells.length cc) := (hb1.cell (by go_size)).trans (by simp [go_sem])
  have p1 : w1.cell? ⟨w.heap.size + 1 + 1, 1, none⟩ = some v0 := (hb1.cell (by go_size)).trans (by simp [go_sem])
  have p2 : w1.cell? ⟨w.heap.size + 1 + 1, 2, none⟩ = some v1 := (hb1.cell (by go_size)).trans (by simp [go_sem])
  have p3 : w1.cell? ⟨w.heap.size + 1 + 1, 3, none⟩ = some (.int .i64 p.turn) := (hb1.cell (by go_size)).trans (by simp [go_sem])
  have p4 : w1.cell? ⟨w.heap.size + 1 + 1, 4, none⟩ = some (.int .i64 p.quiet) := (hb1.cell (by go_size)).trans (by simp [go_sem])
  have HB : Hid (Below w.heap.size w w1) := Lib.hid (((((Below.refl _ _).alloc (Nat.le_refl _) _).alloc (by go_size) _).alloc (by go_size) _).trans (hb1.mono (by go_size)))
  clear hb1 hs1
  cases t1 : (chkErr R x p == 0)
  · have t1' : (chkErr R x p != 0) = true := by simp [bne, t1]
    have HT : Hid (chkErr R x p ≠ 0) := Lib.hid (by simpa using t1)
    clear t1
    go_wp2_with fail
    go_ret2
    exact ⟨by rw [if_neg (fun hh => HT.out hh.1), if_pos HT.out]; rfl, HB.out⟩
  have t1' : (chkErr R x p != 0) = false := by simp [bne, t1]
  have HZ : Hid (chkErr R x p = 0) := Lib.hid (by simpa using t1)
  clear t1
  by_cases t2 : s < 0
  · go_wp2_with fail
    go_ret2
    exact ⟨by rw [if_neg (fun hh => by omega), if_neg (by simp [HZ.out]), if_neg (by omega)]; rfl, HB.out⟩
  by_cases t3 : (p.cells.length : Int) ≤ s
  · go_wp2_with fail
    go_ret2
    exact ⟨by rw [if_neg (fun hh => by omega), if_neg (by simp [HZ.out]), if_neg (by omega)]; rfl, HB.out⟩
  have HPX : Hid (patErr R x = 0 ∧ posErr R p = 0) := Lib.hid (by
    have h := HZ.out
    unfold chkErr at h
    by_cases e : patErr R x ≠ 0
    · rw [if_pos e] at h; exact absurd h e
    · rw [if_neg e] at h; exact ⟨by omega, h⟩)
  go_wp2_with fail
  refine (at_any R vp vs ve x vx p _ v0 v1 s _ (HX.out.below HB.out (Nat.le_refl _)) (HP.out.below HB.out (Nat.le_refl _)) (fit_of HPX.out.1 HPX.out.2 (by omega) (by omega))).mono ?_
  rintro e w2 ⟨rfl, hb2⟩
  have HB2 := Lib.hid (below_trans HB.out hb2 HB.out.size)
  clear hb2
  go_wp2_with fail
  go_ret2
  exact ⟨by rw [if_pos ⟨HZ.out, by omega, by omega⟩, if_neg (by simp [HZ.out]), if_pos (by omega)]; rfl, HB2.out⟩

end Go.Proofs.Ytkfaibdflbdpgaa
