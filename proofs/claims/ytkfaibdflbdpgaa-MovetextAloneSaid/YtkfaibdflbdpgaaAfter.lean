/- The contracts of moves.All, Legal, After (the sort's contract as a hypothesis). -/
import Derived.Test.YtkfaibdflbdpgaaMvLaw
import Derived.Test.YtkfaibdflbdpgaaMvI
import Derived.Test.YtkfaibdflbdpgaaMake
namespace Go.Proofs.Ytkfaibdflbdpgaa
open Go.ChangeShapes Go.WideShapes Go.ChangeAt Go.RowKit
set_option linter.unusedVariables false

/-- what moves.All gives: the moves of a valid position, or an error. -/
def allZ (R : RulesZ) (p : PosZ) : List MoveZ := if posErr R p = 0 then listZ R p else []
def AllPost (R : RulesZ) (p : PosZ) (w : World) (e : Ending) (w' : World) : Prop := ∃ v, e = .returned (.tuple #[v, .int .i64 (posErr R p)]) ∧ w'.ownsRow w.heap.size 42 3 v (allZ R p).length (flatM (allZ R p)) ∧ Below w.heap.size w w'
set_option maxRecDepth 100000 in
set_option maxHeartbeats 1000000 in
theorem All_any (HS : SortMvSaid) (R : RulesZ) (vp vs ve : Value) (p : PosZ) (vc v0 v1 : Value) (w : World) (hr : RdR w R vp vs ve) (hnm : R.name.size ≤ maxLen) (hp : RdP w p vc v0 v1) :
    Calls Try.prog 17 #[(.agg #[.string R.name, .int .i64 R.width, .int .i64 R.height, vp, vs, .bool R.falls, .bool R.keeps, ve, .int .i64 R.blocked, .int .i64 R.quiet, .int .i64 R.rept]), (.agg #[vc, v0, v1, .int .i64 p.turn, .int .i64 p.quiet])] w (AllPost R p w) := by
  have HR := Lib.hid hr
  have HP := Lib.hid hp
  have HN := Lib.hid hnm
  have HSh := Lib.hid HS
  clear hr hp hnm HS
  go_enter Try.func17, Try.ntmps17
  go_upto_region 1 with (fail)
  have B0 : Box ((w.alloc (.cells #[.string R.name, .int .i64 R.width, .int .i64 R.height, vp, vs, .bool R.falls, .bool R.keeps, ve, .int .i64 R.blocked, .int .i64 R.quiet, .int .i64 R.rept] 26)).alloc (.cells #[vc, v0, v1, .int .i64 p.turn, .int .i64 p.quiet] 37)) (w.heap.size) [.string R.name, .int .i64 R.width, .int .i64 R.height, vp, vs, .bool R.falls, .bool R.keeps, ve, .int .i64 R.blocked, .int .i64 R.quiet, .int .i64 R.rept] 26 := ((Box.new' w (w.heap.size) [.string R.name, .int .i64 R.width, .int .i64 R.height, vp, vs, .bool R.falls, .bool R.keeps, ve, .int .i64 R.blocked, .int .i64 R.quiet, .int .i64 R.rept] 26 (by simp <;> omega)).alloc _)
  have B1 : Box ((w.alloc (.cells #[.string R.name, .int .i64 R.width, .int .i64 R.height, vp, vs, .bool R.falls, .bool R.keeps, ve, .int .i64 R.blocked, .int .i64 R.quiet, .int .i64 R.rept] 26)).alloc (.cells #[vc, v0, v1, .int .i64 p.turn, .int .i64 p.quiet] 37)) (w.heap.size + 1) [vc, v0, v1, .int .i64 p.turn, .int .i64 p.quiet] 37 := (Box.new' (w.alloc (.cells #[.string R.name, .int .i64 R.width, .int .i64 R.height, vp, vs, .bool R.falls, .bool R.keeps, ve, .int .i64 R.blocked, .int .i64 R.quiet, .int .i64 R.rept] 26)) (w.heap.size + 1) [vc, v0, v1, .int .i64 p.turn, .int .i64 p.quiet] 37 (by simp <;> omega))
  have HB : Hid (Below w.heap.size w ((w.alloc (.cells #[.string R.name, .int .i64 R.width, .int .i64 R.height, vp, vs, .bool R.falls, .bool R.keeps, ve, .int .i64 R.blocked, .int .i64 R.quiet, .int .i64 R.rept] 26)).alloc (.cells #[vc, v0, v1, .int .i64 p.turn, .int .i64 p.quiet] 37))) := Lib.hid (((Below.refl w.heap.size w).alloc (Nat.le_refl _) _).alloc (by simp <;> omega) _)
  have hz0 : w.heap.size + 1 < ((w.alloc (.cells #[.string R.name, .int .i64 R.width, .int .i64 R.height, vp, vs, .bool R.falls, .bool R.keeps, ve, .int .i64 R.blocked, .int .i64 R.quiet, .int .i64 R.rept] 26)).alloc (.cells #[vc, v0, v1, .int .i64 p.turn, .int .i64 p.quiet] 37)).heap.size := by simp
  generalize ((w.alloc (.cells #[.string R.name, .int .i64 R.width, .int .i64 R.height, vp, vs, .bool R.falls, .bool R.keeps, ve, .int .i64 R.blocked, .int .i64 R.quiet, .int .i64 R.rept] 26)).alloc (.cells #[vc, v0, v1, .int .i64 p.turn, .int .i64 p.quiet] 37)) = w0 at *
  have HRw := Lib.hid (HR.out.below HB.out (Nat.le_refl _))
  have HPw := Lib.hid (HP.out.below HB.out (Nat.le_refl _))
  have HBx := Lib.hid B0
  have HBy := Lib.hid B1
  have HB00 : Hid (Below w0.heap.size w0 w0) := Lib.hid (Below.refl _ _)
  clear B0 B1
  have q0 := (HBx.out.below HB00.out (by omega)).cell 0 rfl
  have q1 := (HBx.out.below HB00.out (by omega)).cell 1 rfl
  have q2 := (HBx.out.below HB00.out (by omega)).cell 2 rfl
  have q3 := (HBx.out.below HB00.out (by omega)).cell 3 rfl
  have q4 := (HBx.out.below HB00.out (by omega)).cell 4 rfl
  have q5 := (HBx.out.below HB00.out (by omega)).cell 5 rfl
  have q6 := (HBx.out.below HB00.out (by omega)).cell 6 rfl
  have q7 := (HBx.out.below HB00.out (by omega)).cell 7 rfl
  have q8 := (HBx.out.below HB00.out (by omega)).cell 8 rfl
  have q9 := (HBx.out.below HB00.out (by omega)).cell 9 rfl
  have q10 := (HBx.out.below HB00.out (by omega)).cell 10 rfl
  have e0 := (HBy.out.below HB00.out (by omega)).cell 0 rfl
  have e1 := (HBy.out.below HB00.out (by omega)).cell 1 rfl
  have e2 := (HBy.out.below HB00.out (by omega)).cell 2 rfl
  have e3 := (HBy.out.below HB00.out (by omega)).cell 3 rfl
  have e4 := (HBy.out.below HB00.out (by omega)).cell 4 rfl
  go_wp2_with fail
  refine (placeCheck_any R vp vs ve p vc v0 v1 w0 HRw.out HN.out HPw.out).mono ?_
  rintro e w1 ⟨rfl, hb1⟩
  have HB1 := Lib.hid hb1
  have hs1 := hb1.size
  clear hb1
  clear q0 q1 q2 q3 q4 q5 q6 q7 q8 q9 q10 e0 e1 e2 e3 e4
  have q0 := (HBx.out.below HB1.out (by omega)).cell 0 rfl
  have q1 := (HBx.out.below HB1.out (by omega)).cell 1 rfl
  have q2 := (HBx.out.below HB1.out (by omega)).cell 2 rfl
  have q3 := (HBx.out.below HB1.out (by omega)).cell 3 rfl
  have q4 := (HBx.out.below HB1.out (by omega)).cell 4 rfl
  have q5 := (HBx.out.below HB1.out (by omega)).cell 5 rfl
  have q6 := (HBx.out.below HB1.out (by omega)).cell 6 rfl
  have q7 := (HBx.out.below HB1.out (by omega)).cell 7 rfl
  have q8 := (HBx.out.below HB1.out (by omega)).cell 8 rfl
  have q9 := (HBx.out.below HB1.out (by omega)).cell 9 rfl
  have q10 := (HBx.out.below HB1.out (by omega)).cell 10 rfl
  have e0 := (HBy.out.below HB1.out (by omega)).cell 0 rfl
  have e1 := (HBy.out.below HB1.out (by omega)).cell 1 rfl
  have e2 := (HBy.out.below HB1.out (by omega)).cell 2 rfl
  have e3 := (HBy.out.below HB1.out (by omega)).cell 3 rfl
  have e4 := (HBy.out.below HB1.out (by omega)).cell 4 rfl
  by_cases he : posErr R p = 0
  · have HZ := Lib.hid he
    have HE : Hid (allZ R p = listZ R p) := Lib.hid (by unfold allZ; rw [if_pos he])
    have HF : Hid (∀ v : Value, Ending.returned (.tuple #[v, .int .i64 0]) = .returned (.tuple #[v, .int .i64 (posErr R p)])) := Lib.hid (fun v => by rw [he])
    rw [he]
    clear he
    go_wp2_with fail
    refine (List_any HSh.out R vp vs ve p vc v0 v1 w1 (HRw.out.below HB1.out (Nat.le_refl _)) (HPw.out.below HB1.out (Nat.le_refl _)) (pok_of HZ.out)).mono ?_
    rintro e w2 ⟨v, rfl, ho, hb2⟩
    have HO := Lib.hid (own_base ho (show w.heap.size ≤ w1.heap.size by have := HB.out.size; omega))
    have HB2 := Lib.hid (below_trans HB1.out hb2 HB1.out.size)
    clear ho hb2
    clear q0 q1 q2 q3 q4 q5 q6 q7 q8 q9 q10 e0 e1 e2 e3 e4
    go_wp2_with fail
    go_ret2
    exact ⟨_, HF.out _, by rw [HE.out]; exact HO.out, below_trans HB.out HB2.out HB.out.size⟩
  · have HE : Hid (allZ R p = []) := Lib.hid (by unfold allZ; rw [if_neg he])
    have he' : (posErr R p != 0) = true := by simpa using he
    clear he
    go_wp2_with fail
    go_ret2
    exact ⟨_, rfl, by rw [HE.out]; exact World.ownsRow_nil _ _ _ _, below_trans HB.out HB1.out HB.out.size⟩
def LegalPost (R : RulesZ) (p : PosZ) (m : MoveZ) (w : World) (e : Ending) (w' : World) : Prop := e = .returned (.tuple #[.bool (decide (m ∈ allZ R p)), .int .i64 (posErr R p)]) ∧ Below w.heap.size w w'
set_option maxRecDepth 100000 in
set_option maxHeartbeats 1000000 in
theorem Legal_any (HS : SortMvSaid) (R : RulesZ) (vp vs ve : Value) (p : PosZ) (vc v0 v1 : Value) (m : MoveZ) (w : World) (hr : RdR w R vp vs ve) (hnm : R.name.size ≤ maxLen) (hp : RdP w p vc v0 v1) :
    Calls Try.prog 82 #[(.agg #[.string R.name, .int .i64 R.width, .int .i64 R.height, vp, vs, .bool R.falls, .bool R.keeps, ve, .int .i64 R.blocked, .int .i64 R.quiet, .int .i64 R.rept]), (.agg #[vc, v0, v1, .int .i64 p.turn, .int .i64 p.quiet]), .agg #[.int .i64 m.src, .int .i64 m.dst, .int .i64 m.piece]] w (LegalPost R p m w) := by
  have HR := Lib.hid hr
  have HP := Lib.hid hp
  have HN := Lib.hid hnm
  have HSh := Lib.hid HS
  clear hr hp hnm HS
  go_enter Try.func82, Try.ntmps82
  go_upto_region 1 with (fail)
  have B0 : Box (((w.alloc (.cells #[.string R.name, .int .i64 R.width, .int .i64 R.height, vp, vs, .bool R.falls, .bool R.keeps, ve, .int .i64 R.blocked, .int .i64 R.quiet, .int .i64 R.rept] 26)).alloc (.cells #[vc, v0, v1, .int .i64 p.turn, .int .i64 p.quiet] 37)).alloc (.cells #[.int .i64 m.src, .int .i64 m.dst, .int .i64 m.piece] 42)) (w.heap.size) [.string R.name, .int .i64 R.width, .int .i64 R.height, vp, vs, .bool R.falls, .bool R.keeps, ve, .int .i64 R.blocked, .int .i64 R.quiet, .int .i64 R.rept] 26 := (((Box.new' w (w.heap.size) [.string R.name, .int .i64 R.width, .int .i64 R.height, vp, vs, .bool R.falls, .bool R.keeps, ve, .int .i64 R.blocked, .int .i64 R.quiet, .int .i64 R.rept] 26 (by simp <;> omega)).alloc _).alloc _)
  have B1 : Box (((w.alloc (.cells #[.string R.name, .int .i64 R.width, .int .i64 R.height, vp, vs, .bool R.falls, .bool R.keeps, ve, .int .i64 R.blocked, .int .i64 R.quiet, .int .i64 R.rept] 26)).alloc (.cells #[vc, v0, v1, .int .i64 p.turn, .int .i64 p.quiet] 37)).alloc (.cells #[.int .i64 m.src, .int .i64 m.dst, .int .i64 m.piece] 42)) (w.heap.size + 1) [vc, v0, v1, .int .i64 p.turn, .int .i64 p.quiet] 37 := ((Box.new' (w.alloc (.cells #[.string R.name, .int .i64 R.width, .int .i64 R.height, vp, vs, .bool R.falls, .bool R.keeps, ve, .int .i64 R.blocked, .int .i64 R.quiet, .int .i64 R.rept] 26)) (w.heap.size + 1) [vc, v0, v1, .int .i64 p.turn, .int .i64 p.quiet] 37 (by simp <;> omega)).alloc _)
  have B2 : Box (((w.alloc (.cells #[.string R.name, .int .i64 R.width, .int .i64 R.height, vp, vs, .bool R.falls, .bool R.keeps, ve, .int .i64 R.blocked, .int .i64 R.quiet, .int .i64 R.rept] 26)).alloc (.cells #[vc, v0, v1, .int .i64 p.turn, .int .i64 p.quiet] 37)).alloc (.cells #[.int .i64 m.src, .int .i64 m.dst, .int .i64 m.piece] 42)) (w.heap.size + 1 + 1) [.int .i64 m.src, .int .i64 m.dst, .int .i64 m.piece] 42 := (Box.new' ((w.alloc (.cells #[.string R.name, .int .i64 R.width, .int .i64 R.height, vp, vs, .bool R.falls, .bool R.keeps, ve, .int .i64 R.blocked, .int .i64 R.quiet, .int .i64 R.rept] 26)).alloc (.cells #[vc, v0, v1, .int .i64 p.turn, .int .i64 p.quiet] 37)) (w.heap.size + 1 + 1) [.int .i64 m.src, .int .i64 m.dst, .int .i64 m.piece] 42 (by simp <;> omega))
  have HB : Hid (Below w.heap.size w (((w.alloc (.cells #[.string R.name, .int .i64 R.width, .int .i64 R.height, vp, vs, .bool R.falls, .bool R.keeps, ve, .int .i64 R.blocked, .int .i64 R.quiet, .int .i64 R.rept] 26)).alloc (.cells #[vc, v0, v1, .int .i64 p.turn, .int .i64 p.quiet] 37)).alloc (.cells #[.int .i64 m.src, .int .i64 m.dst, .int .i64 m.piece] 42))) := Lib.hid ((((Below.refl w.heap.size w).alloc (Nat.le_refl _) _).alloc (by simp <;> omega) _).alloc (by simp <;> omega) _)
  have hz0 : w.heap.size + 1 + 1 < (((w.alloc (.cells #[.string R.name, .int .i64 R.width, .int .i64 R.height, vp, vs, .bool R.falls, .bool R.keeps, ve, .int .i64 R.blocked, .int .i64 R.quiet, .int .i64 R.rept] 26)).alloc (.cells #[vc, v0, v1, .int .i64 p.turn, .int .i64 p.quiet] 37)).alloc (.cells #[.int .i64 m.src, .int .i64 m.dst, .int .i64 m.piece] 42)).heap.size := by simp
  generalize (((w.alloc (.cells #[.string R.name, .int .i64 R.width, .int .i64 R.height, vp, vs, .bool R.falls, .bool R.keeps, ve, .int .i64 R.blocked, .int .i64 R.quiet, .int .i64 R.rept] 26)).alloc (.cells #[vc, v0, v1, .int .i64 p.turn, .int .i64 p.quiet] 37)).alloc (.cells #[.int .i64 m.src, .int .i64 m.dst, .int .i64 m.piece] 42)) = w0 at *
  have HRw := Lib.hid (HR.out.below HB.out (Nat.le_refl _))
  have HPw := Lib.hid (HP.out.below HB.out (Nat.le_refl _))
  have HBx := Lib.hid B0
  have HBy := Lib.hid B1
  have HBm := Lib.hid B2
  have HB00 : Hid (Below w0.heap.size w0 w0) := Lib.hid (Below.refl _ _)
  clear B0 B1 B2
  have q0 := (HBx.out.below HB00.out (by omega)).cell 0 rfl
  have q1 := (HBx.out.below HB00.out (by omega)).cell 1 rfl
  have q2 := (HBx.out.below HB00.out (by omega)).cell 2 rfl
  have q3 := (HBx.out.below HB00.out (by omega)).cell 3 rfl
  have q4 := (HBx.out.below HB00.out (by omega)).cell 4 rfl
  have q5 := (HBx.out.below HB00.out (by omega)).cell 5 rfl
  have q6 := (HBx.out.below HB00.out (by omega)).cell 6 rfl
  have q7 := (HBx.out.below HB00.out (by omega)).cell 7 rfl
  have q8 := (HBx.out.below HB00.out (by omega)).cell 8 rfl
  have q9 := (HBx.out.below HB00.out (by omega)).cell 9 rfl
  have q10 := (HBx.out.below HB00.out (by omega)).cell 10 rfl
  have e0 := (HBy.out.below HB00.out (by omega)).cell 0 rfl
  have e1 := (HBy.out.below HB00.out (by omega)).cell 1 rfl
  have e2 := (HBy.out.below HB00.out (by omega)).cell 2 rfl
  have e3 := (HBy.out.below HB00.out (by omega)).cell 3 rfl
  have e4 := (HBy.out.below HB00.out (by omega)).cell 4 rfl
  go_wp2_with fail
  refine (All_any HSh.out R vp vs ve p vc v0 v1 w0 HRw.out HN.out HPw.out).mono ?_
  rintro e w1 ⟨v, rfl, ho, hb1⟩
  obtain ⟨al, cl, rfl⟩ := own_form2 ho
  have HO := Lib.hid (rdM_of_own ho)
  have HB1 := Lib.hid hb1
  have hs1 := hb1.size
  clear ho hb1
  clear q0 q1 q2 q3 q4 q5 q6 q7 q8 q9 q10 e0 e1 e2 e3 e4
  have m0 := (HBm.out.below HB1.out (by omega)).cell 0 rfl
  have m1 := (HBm.out.below HB1.out (by omega)).cell 1 rfl
  have m2 := (HBm.out.below HB1.out (by omega)).cell 2 rfl
  go_wp2_with fail
  refine (contains_mv _ m (allZ R p) w1 HO.out).mono ?_
  rintro e w2 ⟨rfl, hb2⟩
  have HB2 := Lib.hid (below_trans HB1.out hb2 HB1.out.size)
  clear hb2 m0 m1 m2
  go_wp2_with fail
  go_ret2
  exact ⟨rfl, below_trans HB.out HB2.out HB.out.size⟩
def AfterPost (R : RulesZ) (p : PosZ) (m : MoveZ) (w : World) (e : Ending) (w' : World) : Prop :=
  (posErr R p ≠ 0 ∧ e = .returned (.tuple #[zeroPos, .int .i64 (posErr R p)]) ∧ Below w.heap.size w w') ∨
  (posErr R p = 0 ∧ m ∉ listZ R p ∧ e = .returned (.tuple #[zeroPos, .int .i64 13]) ∧ Below w.heap.size w w') ∨
  (posErr R p = 0 ∧ m ∈ listZ R p ∧ ∃ vc v0 v1, e = .returned (.tuple #[posV (makeZ R p m) vc v0 v1, .int .i64 0]) ∧ OwnP w.heap.size w' (makeZ R p m) vc v0 v1 ∧ Below w.heap.size w w')
set_option maxRecDepth 100000 in
set_option maxHeartbeats 1000000 in
theorem After_any (HS : SortMvSaid) (R : RulesZ) (vp vs ve : Value) (p : PosZ) (vc v0 v1 : Value) (m : MoveZ) (w : World) (hr : RdR w R vp vs ve) (hnm : R.name.size ≤ maxLen) (hp : RdP w p vc v0 v1) :
    Calls Try.prog 42 #[(.agg #[.string R.name, .int .i64 R.width, .int .i64 R.height, vp, vs, .bool R.falls, .bool R.keeps, ve, .int .i64 R.blocked, .int .i64 R.quiet, .int .i64 R.rept]), (.agg #[vc, v0, v1, .int .i64 p.turn, .int .i64 p.quiet]), .agg #[.int .i64 m.src, .int .i64 m.dst, .int .i64 m.piece]] w (AfterPost R p m w) := by
  have HR := Lib.hid hr
  have HP := Lib.hid hp
  have HN := Lib.hid hnm
  have HSh := Lib.hid HS
  clear hr hp hnm HS
  go_enter Try.func42, Try.ntmps42
  go_upto_region 1 with (fail)
  have B0 : Box ((((w.alloc (.cells #[.string R.name, .int .i64 R.width, .int .i64 R.height, vp, vs, .bool R.falls, .bool R.keeps, ve, .int .i64 R.blocked, .int .i64 R.quiet, .int .i64 R.rept] 26)).alloc (.cells #[vc, v0, v1, .int .i64 p.turn, .int .i64 p.quiet] 37)).alloc (.cells #[.int .i64 m.src, .int .i64 m.dst, .int .i64 m.piece] 42)).alloc (.cells #[.slice none 0 0, .slice none 0 0, .slice none 0 0, .int .i64 0, .int .i64 0] 37)) (w.heap.size) [.string R.name, .int .i64 R.width, .int .i64 R.height, vp, vs, .bool R.falls, .bool R.keeps, ve, .int .i64 R.blocked, .int .i64 R.quiet, .int .i64 R.rept] 26 := ((((Box.new' w (w.heap.size) [.string R.name, .int .i64 R.width, .int .i64 R.height, vp, vs, .bool R.falls, .bool R.keeps, ve, .int .i64 R.blocked, .int .i64 R.quiet, .int .i64 R.rept] 26 (by simp <;> omega)).alloc _).alloc _).alloc _)
  have B1 : Box ((((w.alloc (.cells #[.string R.name, .int .i64 R.width, .int .i64 R.height, vp, vs, .bool R.falls, .bool R.keeps, ve, .int .i64 R.blocked, .int .i64 R.quiet, .int .i64 R.rept] 26)).alloc (.cells #[vc, v0, v1, .int .i64 p.turn, .int .i64 p.quiet] 37)).alloc (.cells #[.int .i64 m.src, .int .i64 m.dst, .int .i64 m.piece] 42)).alloc (.cells #[.slice none 0 0, .slice none 0 0, .slice none 0 0, .int .i64 0, .int .i64 0] 37)) (w.heap.size + 1) [vc, v0, v1, .int .i64 p.turn, .int .i64 p.quiet] 37 := (((Box.new' (w.alloc (.cells #[.string R.name, .int .i64 R.width, .int .i64 R.height, vp, vs, .bool R.falls, .bool R.keeps, ve, .int .i64 R.blocked, .int .i64 R.quiet, .int .i64 R.rept] 26)) (w.heap.size + 1) [vc, v0, v1, .int .i64 p.turn, .int .i64 p.quiet] 37 (by simp <;> omega)).alloc _).alloc _)
  have B2 : Box ((((w.alloc (.cells #[.string R.name, .int .i64 R.width, .int .i64 R.height, vp, vs, .bool R.falls, .bool R.keeps, ve, .int .i64 R.blocked, .int .i64 R.quiet, .int .i64 R.rept] 26)).alloc (.cells #[vc, v0, v1, .int .i64 p.turn, .int .i64 p.quiet] 37)).alloc (.cells #[.int .i64 m.src, .int .i64 m.dst, .int .i64 m.piece] 42)).alloc (.cells #[.slice none 0 0, .slice none 0 0, .slice none 0 0, .int .i64 0, .int .i64 0] 37)) (w.heap.size + 1 + 1) [.int .i64 m.src, .int .i64 m.dst, .int .i64 m.piece] 42 := ((Box.new' ((w.alloc (.cells #[.string R.name, .int .i64 R.width, .int .i64 R.height, vp, vs, .bool R.falls, .bool R.keeps, ve, .int .i64 R.blocked, .int .i64 R.quiet, .int .i64 R.rept] 26)).alloc (.cells #[vc, v0, v1, .int .i64 p.turn, .int .i64 p.quiet] 37)) (w.heap.size + 1 + 1) [.int .i64 m.src, .int .i64 m.dst, .int .i64 m.piece] 42 (by simp <;> omega)).alloc _)
  have B3 : Box ((((w.alloc (.cells #[.string R.name, .int .i64 R.width, .int .i64 R.height, vp, vs, .bool R.falls, .bool R.keeps, ve, .int .i64 R.blocked, .int .i64 R.quiet, .int .i64 R.rept] 26)).alloc (.cells #[vc, v0, v1, .int .i64 p.turn, .int .i64 p.quiet] 37)).alloc (.cells #[.int .i64 m.src, .int .i64 m.dst, .int .i64 m.piece] 42)).alloc (.cells #[.slice none 0 0, .slice none 0 0, .slice none 0 0, .int .i64 0, .int .i64 0] 37)) (w.heap.size + 1 + 1 + 1) [.slice none 0 0, .slice none 0 0, .slice none 0 0, .int .i64 0, .int .i64 0] 37 := (Box.new' (((w.alloc (.cells #[.string R.name, .int .i64 R.width, .int .i64 R.height, vp, vs, .bool R.falls, .bool R.keeps, ve, .int .i64 R.blocked, .int .i64 R.quiet, .int .i64 R.rept] 26)).alloc (.cells #[vc, v0, v1, .int .i64 p.turn, .int .i64 p.quiet] 37)).alloc (.cells #[.int .i64 m.src, .int .i64 m.dst, .int .i64 m.piece] 42)) (w.heap.size + 1 + 1 + 1) [.slice none 0 0, .slice none 0 0, .slice none 0 0, .int .i64 0, .int .i64 0] 37 (by simp <;> omega))
  have HB : Hid (Below w.heap.size w ((((w.alloc (.cells #[.string R.name, .int .i64 R.width, .int .i64 R.height, vp, vs, .bool R.falls, .bool R.keeps, ve, .int .i64 R.blocked, .int .i64 R.quiet, .int .i64 R.rept] 26)).alloc (.cells #[vc, v0, v1, .int .i64 p.turn, .int .i64 p.quiet] 37)).alloc (.cells #[.int .i64 m.src, .int .i64 m.dst, .int .i64 m.piece] 42)).alloc (.cells #[.slice none 0 0, .slice none 0 0, .slice none 0 0, .int .i64 0, .int .i64 0] 37))) := Lib.hid (((((Below.refl w.heap.size w).alloc (Nat.le_refl _) _).alloc (by simp <;> omega) _).alloc (by simp <;> omega) _).alloc (by simp <;> omega) _)
  have hz0 : w.heap.size + 1 + 1 + 1 < ((((w.alloc (.cells #[.string R.name, .int .i64 R.width, .int .i64 R.height, vp, vs, .bool R.falls, .bool R.keeps, ve, .int .i64 R.blocked, .int .i64 R.quiet, .int .i64 R.rept] 26)).alloc (.cells #[vc, v0, v1, .int .i64 p.turn, .int .i64 p.quiet] 37)).alloc (.cells #[.int .i64 m.src, .int .i64 m.dst, .int .i64 m.piece] 42)).alloc (.cells #[.slice none 0 0, .slice none 0 0, .slice none 0 0, .int .i64 0, .int .i64 0] 37)).heap.size := by simp
  generalize ((((w.alloc (.cells #[.string R.name, .int .i64 R.width, .int .i64 R.height, vp, vs, .bool R.falls, .bool R.keeps, ve, .int .i64 R.blocked, .int .i64 R.quiet, .int .i64 R.rept] 26)).alloc (.cells #[vc, v0, v1, .int .i64 p.turn, .int .i64 p.quiet] 37)).alloc (.cells #[.int .i64 m.src, .int .i64 m.dst, .int .i64 m.piece] 42)).alloc (.cells #[.slice none 0 0, .slice none 0 0, .slice none 0 0, .int .i64 0, .int .i64 0] 37)) = w0 at *
  have HRw := Lib.hid (HR.out.below HB.out (Nat.le_refl _))
  have HPw := Lib.hid (HP.out.below HB.out (Nat.le_refl _))
  have HBx := Lib.hid B0
  have HBy := Lib.hid B1
  have HBm := Lib.hid B2
  have HBz := Lib.hid B3
  have HB00 : Hid (Below w0.heap.size w0 w0) := Lib.hid (Below.refl _ _)
  clear B0 B1 B2 B3
  have q0 := (HBx.out.below HB00.out (by omega)).cell 0 rfl
  have q1 := (HBx.out.below HB00.out (by omega)).cell 1 rfl
  have q2 := (HBx.out.below HB00.out (by omega)).cell 2 rfl
  have q3 := (HBx.out.below HB00.out (by omega)).cell 3 rfl
  have q4 := (HBx.out.below HB00.out (by omega)).cell 4 rfl
  have q5 := (HBx.out.below HB00.out (by omega)).cell 5 rfl
  have q6 := (HBx.out.below HB00.out (by omega)).cell 6 rfl
  have q7 := (HBx.out.below HB00.out (by omega)).cell 7 rfl
  have q8 := (HBx.out.below HB00.out (by omega)).cell 8 rfl
  have q9 := (HBx.out.below HB00.out (by omega)).cell 9 rfl
  have q10 := (HBx.out.below HB00.out (by omega)).cell 10 rfl
  have e0 := (HBy.out.below HB00.out (by omega)).cell 0 rfl
  have e1 := (HBy.out.below HB00.out (by omega)).cell 1 rfl
  have e2 := (HBy.out.below HB00.out (by omega)).cell 2 rfl
  have e3 := (HBy.out.below HB00.out (by omega)).cell 3 rfl
  have e4 := (HBy.out.below HB00.out (by omega)).cell 4 rfl
  have m0 := (HBm.out.below HB00.out (by omega)).cell 0 rfl
  have m1 := (HBm.out.below HB00.out (by omega)).cell 1 rfl
  have m2 := (HBm.out.below HB00.out (by omega)).cell 2 rfl
  go_wp2_with fail
  refine (Legal_any HSh.out R vp vs ve p vc v0 v1 m w0 HRw.out HN.out HPw.out).mono ?_
  rintro e w1 ⟨rfl, hb1⟩
  have HB1 := Lib.hid hb1
  have hs1 := hb1.size
  clear hb1 m0 m1 m2
  clear q0 q1 q2 q3 q4 q5 q6 q7 q8 q9 q10 e0 e1 e2 e3 e4
  have HZ1 := Lib.hid (HBz.out.below HB1.out (by omega))
  have hzl := HZ1.out.lt
  by_cases he : posErr R p = 0
  rotate_left
  · have HE := Lib.hid he
    have he' : (posErr R p != 0) = true := by simpa using he
    clear he
    have z0 := HZ1.out.cell 0 rfl
    have z1 := HZ1.out.cell 1 rfl
    have z2 := HZ1.out.cell 2 rfl
    have z3 := HZ1.out.cell 3 rfl
    have z4 := HZ1.out.cell 4 rfl
    have zf0 := HZ1.out.frozen 0
    have zf1 := HZ1.out.frozen 1
    have zf2 := HZ1.out.frozen 2
    have zf3 := HZ1.out.frozen 3
    have zf4 := HZ1.out.frozen 4
    have HSx := Lib.hid (HZ1.out.store (vs := [.slice none 0 0, .slice none 0 0, .slice none 0 0, .int .i64 0, .int .i64 0]) rfl)
    have HLx := Lib.hid (below_setCells (below_trans HB.out HB1.out HB.out.size) (show w.heap.size ≤ w.heap.size + 1 + 1 + 1 by omega) 0 [.slice none 0 0, .slice none 0 0, .slice none 0 0, .int .i64 0, .int .i64 0])
    go_wp2_with fail
    exact bodyPost_ret (results_box rfl (by rfl) (by rfl) HSx.out Try.underlying37 (by rfl) (by kernel_rfl)) rfl (.inl ⟨HE.out, rfl, HLx.out⟩)
  have HE := Lib.hid he
  have HAL : Hid (allZ R p = listZ R p) := Lib.hid (by unfold allZ; rw [if_pos he])
  rw [HAL.out, he]
  clear he
  by_cases hm : m ∈ listZ R p
  rotate_left
  · have HM := Lib.hid hm
    have hd : decide (m ∈ listZ R p) = false := by simpa using hm
    rw [hd]
    clear hd hm
    have z0 := HZ1.out.cell 0 rfl
    have z1 := HZ1.out.cell 1 rfl
    have z2 := HZ1.out.cell 2 rfl
    have z3 := HZ1.out.cell 3 rfl
    have z4 := HZ1.out.cell 4 rfl
    have zf0 := HZ1.out.frozen 0
    have zf1 := HZ1.out.frozen 1
    have zf2 := HZ1.out.frozen 2
    have zf3 := HZ1.out.frozen 3
    have zf4 := HZ1.out.frozen 4
    have HSx := Lib.hid (HZ1.out.store (vs := [.slice none 0 0, .slice none 0 0, .slice none 0 0, .int .i64 0, .int .i64 0]) rfl)
    have HLx := Lib.hid (below_setCells (below_trans HB.out HB1.out HB.out.size) (show w.heap.size ≤ w.heap.size + 1 + 1 + 1 by omega) 0 [.slice none 0 0, .slice none 0 0, .slice none 0 0, .int .i64 0, .int .i64 0])
    go_wp2_with fail
    exact bodyPost_ret (results_box rfl (by rfl) (by rfl) HSx.out Try.underlying37 (by rfl) (by kernel_rfl)) rfl (.inr (.inl ⟨HE.out, HM.out, rfl, HLx.out⟩))
  · have HM := Lib.hid hm
    have hd : decide (m ∈ listZ R p) = true := by simpa using hm
    rw [hd]
    clear hd hm
    have q0 := (HBx.out.below HB1.out (by omega)).cell 0 rfl
    have q1 := (HBx.out.below HB1.out (by omega)).cell 1 rfl
    have q2 := (HBx.out.below HB1.out (by omega)).cell 2 rfl
    have q3 := (HBx.out.below HB1.out (by omega)).cell 3 rfl
    have q4 := (HBx.out.below HB1.out (by omega)).cell 4 rfl
    have q5 := (HBx.out.below HB1.out (by omega)).cell 5 rfl
    have q6 := (HBx.out.below HB1.out (by omega)).cell 6 rfl
    have q7 := (HBx.out.below HB1.out (by omega)).cell 7 rfl
    have q8 := (HBx.out.below HB1.out (by omega)).cell 8 rfl
    have q9 := (HBx.out.below HB1.out (by omega)).cell 9 rfl
    have q10 := (HBx.out.below HB1.out (by omega)).cell 10 rfl
    have e0 := (HBy.out.below HB1.out (by omega)).cell 0 rfl
    have e1 := (HBy.out.below HB1.out (by omega)).cell 1 rfl
    have e2 := (HBy.out.below HB1.out (by omega)).cell 2 rfl
    have e3 := (HBy.out.below HB1.out (by omega)).cell 3 rfl
    have e4 := (HBy.out.below HB1.out (by omega)).cell 4 rfl
    have m0 := (HBm.out.below HB1.out (by omega)).cell 0 rfl
    have m1 := (HBm.out.below HB1.out (by omega)).cell 1 rfl
    have m2 := (HBm.out.below HB1.out (by omega)).cell 2 rfl
    go_wp2_with fail
    refine (Make_any R vp vs ve p vc v0 v1 m w1 (HPw.out.below HB1.out (Nat.le_refl _)) (pok_of HE.out) (fits_of (pok_of HE.out) HM.out)).mono ?_
    rintro e w2 ⟨nc, n0, n1, rfl, hown, hb2⟩
    have hrd := hown.rd
    have HOWN := Lib.hid hown
    clear hown
    have HB2 := Lib.hid (below_trans HB1.out hb2 HB1.out.size)
    obtain ⟨an, cn, rfl, _, _⟩ := hrd.1.form
    obtain ⟨am, cm, rfl, _, _⟩ := hrd.2.1.form
    obtain ⟨ao, co, rfl, _, _⟩ := hrd.2.2.form
    have HZ2 := Lib.hid (HZ1.out.stays hb2)
    clear hb2 hrd m0 m1 m2
    clear q0 q1 q2 q3 q4 q5 q6 q7 q8 q9 q10 e0 e1 e2 e3 e4
    unfold posV
    have z0 := HZ2.out.cell 0 rfl
    have z1 := HZ2.out.cell 1 rfl
    have z2 := HZ2.out.cell 2 rfl
    have z3 := HZ2.out.cell 3 rfl
    have z4 := HZ2.out.cell 4 rfl
    have zf0 := HZ2.out.frozen 0
    have zf1 := HZ2.out.frozen 1
    have zf2 := HZ2.out.frozen 2
    have zf3 := HZ2.out.frozen 3
    have zf4 := HZ2.out.frozen 4
    have HSx := Lib.hid (HZ2.out.store (vs := [.slice an (makeZ R p m).cells.length cn, .slice am (makeZ R p m).h0.length cm, .slice ao (makeZ R p m).h1.length co, .int .i64 (makeZ R p m).turn, .int .i64 (makeZ R p m).quiet]) rfl)
    have HLx := Lib.hid (below_setCells (below_trans HB.out HB2.out HB.out.size) (show w.heap.size ≤ w.heap.size + 1 + 1 + 1 by omega) 0 [.slice an (makeZ R p m).cells.length cn, .slice am (makeZ R p m).h0.length cm, .slice ao (makeZ R p m).h1.length co, .int .i64 (makeZ R p m).turn, .int .i64 (makeZ R p m).quiet])
    have HRx : Hid (OwnP w.heap.size (w2.setCells (w.heap.size + 1 + 1 + 1) 0 [.slice an (makeZ R p m).cells.length cn, .slice am (makeZ R p m).h0.length cm, .slice ao (makeZ R p m).h1.length co, .int .i64 (makeZ R p m).turn, .int .i64 (makeZ R p m).quiet]) (makeZ R p m) (.slice an (makeZ R p m).cells.length cn) (.slice am (makeZ R p m).h0.length cm) (.slice ao (makeZ R p m).h1.length co)) := Lib.hid ((HOWN.out.setCells (by omega) 0 _).base (by omega))
    go_wp2_with fail
    exact bodyPost_ret (results_box rfl (by rfl) (by rfl) HSx.out Try.underlying37 (by rfl) (by kernel_rfl)) rfl (.inr (.inr ⟨HE.out, HM.out, _, _, _, rfl, HRx.out, HLx.out⟩))

end Go.Proofs.Ytkfaibdflbdpgaa
