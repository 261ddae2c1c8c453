/- The contracts of pattern.list and pattern.All. -/
import Derived.Test.YthddenadehhbdaaPatC
import Derived.Test.YthddenadehhbdaaApp
namespace Go.Proofs.Ythddenadehhbdaa
open Go.ChangeShapes Go.WideShapes Go.ChangeAt Go.RowKit
set_option linter.unusedVariables false

def atsTo (R : RulesZ) (x : PatZ) (p : PosZ) (k : Nat) : List Int := ((List.range k).filter fun s : Nat => atZ R x p (s : Int)).map fun s : Nat => (s : Int)
def listPZ (R : RulesZ) (x : PatZ) (p : PosZ) : List Int := atsTo R x p p.cells.length
theorem atsTo_succ (R : RulesZ) (x : PatZ) (p : PosZ) (k : Nat) : atsTo R x p (k + 1) = atsTo R x p k ++ if atZ R x p (k : Int) = true then [(k : Int)] else [] := by
  unfold atsTo
  rw [List.range_succ, List.filter_append, List.map_append]
  congr 1
  by_cases e : atZ R x p (k : Int) = true <;> simp [e]
theorem atsTo_len (R : RulesZ) (x : PatZ) (p : PosZ) (k : Nat) : (atsTo R x p k).length ≤ k := by
  unfold atsTo
  rw [List.length_map]
  have := List.length_filter_le (fun s : Nat => atZ R x p (s : Int)) (List.range k)
  simpa using this
theorem info_int : (Try.prog.info? 3).map (fun i => (i.zero, i.size, i.bytes)) = some (some (.int .i64 0), 1, 8) := by kernel_rfl
set_option maxRecDepth 100000 in
set_option maxHeartbeats 4000000 in
theorem list_any (R : RulesZ) (vp vs ve : Value) (x : PatZ) (vx : Value) (p : PosZ) (vc v0 v1 : Value) (w : World) (hx : RdI w vx x.cells) (hp : RdP w p vc v0 v1) (F : ∀ s, 0 ≤ s → s < (p.cells.length : Int) → Fit R x p s) (hpl : p.cells.length ≤ 64) :
    Calls Try.prog 42 #[(.agg #[.string R.name, .int .i64 R.width, .int .i64 R.height, vp, vs, .bool R.falls, .bool R.keeps, ve, .int .i64 R.blocked, .int .i64 R.quiet, .int .i64 R.rept]), .agg #[.int .i64 x.width, .int .i64 x.height, vx, .int .i64 x.turn], (.agg #[vc, v0, v1, .int .i64 p.turn, .int .i64 p.quiet])] w fun e w' => ∃ v, e = .returned v ∧ w'.ownsRow w.heap.size 3 1 v (listPZ R x p).length (ints (listPZ R x p)) ∧ Below w.heap.size w w' := by
  have HX := Lib.hid hx
  have HP := Lib.hid hp
  have HF := Lib.hid F
  obtain ⟨ac, cc, rfl, hc1, hc2⟩ := hp.1.form
  unfold maxLen at hc2
  clear hx hp F
  go_enter Try.func42, Try.ntmps42
  go_upto_region 1 with (fail)
  have B0 : Box (((w.alloc (.cells #[.string R.name, .int .i64 R.width, .int .i64 R.height, vp, vs, .bool R.falls, .bool R.keeps, ve, .int .i64 R.blocked, .int .i64 R.quiet, .int .i64 R.rept] 43)).alloc (.cells #[.int .i64 x.width, .int .i64 x.height, vx, .int .i64 x.turn] 45)).alloc (.cells #[.slice ac p.cells.length cc, v0, v1, .int .i64 p.turn, .int .i64 p.quiet] 51)) (w.heap.size) [.string R.name, .int .i64 R.width, .int .i64 R.height, vp, vs, .bool R.falls, .bool R.keeps, ve, .int .i64 R.blocked, .int .i64 R.quiet, .int .i64 R.rept] 43 := (((Box.new' w (w.heap.size) [.string R.name, .int .i64 R.width, .int .i64 R.height, vp, vs, .bool R.falls, .bool R.keeps, ve, .int .i64 R.blocked, .int .i64 R.quiet, .int .i64 R.rept] 43 (by simp <;> omega)).alloc _).alloc _)
  have B1 : Box (((w.alloc (.cells #[.string R.name, .int .i64 R.width, .int .i64 R.height, vp, vs, .bool R.falls, .bool R.keeps, ve, .int .i64 R.blocked, .int .i64 R.quiet, .int .i64 R.rept] 43)).alloc (.cells #[.int .i64 x.width, .int .i64 x.height, vx, .int .i64 x.turn] 45)).alloc (.cells #[.slice ac p.cells.length cc, v0, v1, .int .i64 p.turn, .int .i64 p.quiet] 51)) (w.heap.size + 1) [.int .i64 x.width, .int .i64 x.height, vx, .int .i64 x.turn] 45 := ((Box.new' (w.alloc (.cells #[.string R.name, .int .i64 R.width, .int .i64 R.height, vp, vs, .bool R.falls, .bool R.keeps, ve, .int .i64 R.blocked, .int .i64 R.quiet, .int .i64 R.rept] 43)) (w.heap.size + 1) [.int .i64 x.width, .int .i64 x.height, vx, .int .i64 x.turn] 45 (by simp <;> omega)).alloc _)
  have B2 : Box (((w.alloc (.cells #[.string R.name, .int .i64 R.width, .int .i64 R.height, vp, vs, .bool R.falls, .bool R.keeps, ve, .int .i64 R.blocked, .int .i64 R.quiet, .int .i64 R.rept] 43)).alloc (.cells #[.int .i64 x.width, .int .i64 x.height, vx, .int .i64 x.turn] 45)).alloc (.cells #[.slice ac p.cells.length cc, v0, v1, .int .i64 p.turn, .int .i64 p.quiet] 51)) (w.heap.size + 1 + 1) [.slice ac p.cells.length cc, v0, v1, .int .i64 p.turn, .int .i64 p.quiet] 51 := (Box.new' ((w.alloc (.cells #[.string R.name, .int .i64 R.width, .int .i64 R.height, vp, vs, .bool R.falls, .bool R.keeps, ve, .int .i64 R.blocked, .int .i64 R.quiet, .int .i64 R.rept] 43)).alloc (.cells #[.int .i64 x.width, .int .i64 x.height, vx, .int .i64 x.turn] 45)) (w.heap.size + 1 + 1) [.slice ac p.cells.length cc, v0, v1, .int .i64 p.turn, .int .i64 p.quiet] 51 (by simp <;> omega))
  have HB : Hid (Below w.heap.size w (((w.alloc (.cells #[.string R.name, .int .i64 R.width, .int .i64 R.height, vp, vs, .bool R.falls, .bool R.keeps, ve, .int .i64 R.blocked, .int .i64 R.quiet, .int .i64 R.rept] 43)).alloc (.cells #[.int .i64 x.width, .int .i64 x.height, vx, .int .i64 x.turn] 45)).alloc (.cells #[.slice ac p.cells.length cc, v0, v1, .int .i64 p.turn, .int .i64 p.quiet] 51))) := Lib.hid ((((Below.refl w.heap.size w).alloc (Nat.le_refl _) _).alloc (by simp <;> omega) _).alloc (by simp <;> omega) _)
  have hz0 : w.heap.size + 1 + 1 < (((w.alloc (.cells #[.string R.name, .int .i64 R.width, .int .i64 R.height, vp, vs, .bool R.falls, .bool R.keeps, ve, .int .i64 R.blocked, .int .i64 R.quiet, .int .i64 R.rept] 43)).alloc (.cells #[.int .i64 x.width, .int .i64 x.height, vx, .int .i64 x.turn] 45)).alloc (.cells #[.slice ac p.cells.length cc, v0, v1, .int .i64 p.turn, .int .i64 p.quiet] 51)).heap.size := by simp
  generalize (((w.alloc (.cells #[.string R.name, .int .i64 R.width, .int .i64 R.height, vp, vs, .bool R.falls, .bool R.keeps, ve, .int .i64 R.blocked, .int .i64 R.quiet, .int .i64 R.rept] 43)).alloc (.cells #[.int .i64 x.width, .int .i64 x.height, vx, .int .i64 x.turn] 45)).alloc (.cells #[.slice ac p.cells.length cc, v0, v1, .int .i64 p.turn, .int .i64 p.quiet] 51)) = w0 at *
  have HXw := Lib.hid (HX.out.below HB.out (Nat.le_refl _))
  have HPw := Lib.hid (HP.out.below HB.out (Nat.le_refl _))
  have HB0 := Lib.hid B0
  have HB1 := Lib.hid B1
  have HB2 := Lib.hid B2
  have q0 := B2.cell 0 rfl
  clear B0 B1 B2
  go_wp2_with fail
  clear q0
  go_loopw [12, 8, 7] (fun vi vs' vo wr => ∃ (k : Nat) (o : Value), o = vo ∧ k ≤ p.cells.length ∧ vi = .int .i64 k ∧ Hid (Below w0.heap.size w0 wr) ∧ Hid (wr.ownsRow w0.heap.size 3 1 vo (atsTo R x p k).length (ints (atsTo R x p k)))) (fun i _ _ _ => p.cells.length - (intOf i).toNat)
  case atStart => exact ⟨0, _, rfl, Nat.zero_le _, rfl, Lib.hid (Below.refl _ _), Lib.hid (World.ownsRow_nil _ _ _ _)⟩
  case round =>
    obtain ⟨k, vo, rfl, hk, rfl, HBr, HO⟩ := hrel
    have hsz := HBr.out.size
    have HBw := Lib.hid (below_trans HB.out HBr.out HB.out.size)
    by_cases hlt : k < p.cells.length
    · have HY0 := Lib.hid (HB0.out.stays HBr.out)
      have HY1 := Lib.hid (HB1.out.stays HBr.out)
      have HY2 := Lib.hid (HB2.out.stays HBr.out)
      have HSn := Lib.hid (atsTo_succ R x p k)
      have hal := atsTo_len R x p k
      go_upto_region 5 with (fail)
      refine wp_region_lit ?_
      refine wpList_load_box (by rfl) 43 (.tmp 3) (by rfl) (w.heap.size) (by rfl) HY0.out Try.underlying43 (by rfl) (by kernel_rfl) ?_
      refine wpList_load_box (by rfl) 45 (.tmp 4) (by rfl) (w.heap.size + 1) (by rfl) HY1.out Try.underlying45 (by rfl) (by kernel_rfl) ?_
      refine wpList_load_box (by rfl) 51 (.tmp 5) (by rfl) (w.heap.size + 1 + 1) (by rfl) HY2.out Try.underlying51 (by rfl) (by kernel_rfl) ?_
      go_wp2_with fail
      refine (at_any R vp vs ve x vx p _ v0 v1 (k : Int) wr (HX.out.below HBw.out (Nat.le_refl _)) (HP.out.below HBw.out (Nat.le_refl _)) (HF.out k (by omega) (by omega))).mono ?_
      rintro e w2 ⟨rfl, hb2⟩
      have HB2' := Lib.hid (HBr.out.trans (hb2.mono hsz))
      have HO2 := Lib.hid (own_stays HO.out hb2)
      have hs2 := hb2.size
      clear hb2 HO
      cases hat : atZ R x p (k : Int)
      · go_wp2_with fail
        go_roundw
        case rel => exact ⟨k + 1, _, rfl, by omega, by go_num, HB2', Lib.hid (by rw [HSn.out, hat]; simpa using HO2.out)⟩
        case measure => simp [intOf]; omega
      · go_wp2_with (at_builtin; refine app_new 28 3 (.int .i64 0) 1 8 info_int Try.underlying28 rfl (by decide) (by rfl) _ _ (by rfl) w0.heap.size _ (atsTo R x p k).length (ints (atsTo R x p k)) [.int .i64 k] w2 HO2.out (by omega) rfl one_int (by omega) (by omega) (by rfl) (by rfl) ?_)
        intro g3 cap3 w3 hown3 hkeep3 _
        have HO3 := Lib.hid hown3
        have HB3 := Lib.hid (hkeep3.below HB2'.out (Nat.le_refl _))
        clear hown3 hkeep3
        go_wp2_with fail
        go_roundw
        case rel => exact ⟨k + 1, _, rfl, by omega, by go_num, HB3, Lib.hid (by rw [HSn.out, hat, if_pos rfl, ← ints_append, List.length_append]; exact HO3.out)⟩
        case measure => simp [intOf]; omega
    · obtain rfl : k = p.cells.length := by omega
      go_wp2_with fail
      go_ret
      exact ⟨_, rfl, own_base HO.out HB.out.size, HBw.out⟩
def AllPatPost (R : RulesZ) (x : PatZ) (p : PosZ) (w : World) (e : Ending) (w' : World) : Prop :=
  (chkErr R x p ≠ 0 ∧ e = .returned (.tuple #[.slice none 0 0, .int .i64 (chkErr R x p)]) ∧ Below w.heap.size w w') ∨
  (chkErr R x p = 0 ∧ ∃ v, e = .returned (.tuple #[v, .int .i64 0]) ∧ w'.ownsRow w.heap.size 3 1 v (listPZ R x p).length (ints (listPZ R x p)) ∧ Below w.heap.size w w')
theorem chk_parts {R : RulesZ} {x : PatZ} {p : PosZ} (h : chkErr R x p = 0) : patErr R x = 0 ∧ posErr R p = 0 := by
  unfold chkErr at h
  by_cases e : patErr R x ≠ 0
  · rw [if_pos e] at h; exact absurd h e
  · rw [if_neg e] at h; exact ⟨by omega, h⟩
theorem pos_len {R : RulesZ} {p : PosZ} (h : posErr R p = 0) : p.cells.length ≤ 64 := by
  obtain ⟨hr, pl, _⟩ := posOk h
  obtain ⟨hw, hh, hn⟩ := rulesOk hr
  have := mul_in R.width R.height 8 8 hw.1 hw.2 hh.1 hh.2
  omega
set_option maxRecDepth 100000 in
set_option maxHeartbeats 4000000 in
theorem PAll_any (R : RulesZ) (vp vs ve : Value) (x : PatZ) (vx : Value) (p : PosZ) (vc v0 v1 : Value) (w : World) (h : RdR w R vp vs ve) (hnm : R.name.size ≤ maxLen) (hx : RdI w vx x.cells) (hp : RdP w p vc v0 v1) :
    Calls Try.prog 20 #[(.agg #[.string R.name, .int .i64 R.width, .int .i64 R.height, vp, vs, .bool R.falls, .bool R.keeps, ve, .int .i64 R.blocked, .int .i64 R.quiet, .int .i64 R.rept]), .agg #[.int .i64 x.width, .int .i64 x.height, vx, .int .i64 x.turn], (.agg #[vc, v0, v1, .int .i64 p.turn, .int .i64 p.quiet])] w (AllPatPost R x p w) := by
  have HR := Lib.hid h
  have HN := Lib.hid hnm
  have HX := Lib.hid hx
  have HP := Lib.hid hp
  clear h hnm hx hp
  go_enter Try.func20, Try.ntmps20
  go_upto_region 1 with (fail)
  have B0 : Box (((w.alloc (.cells #[.string R.name, .int .i64 R.width, .int .i64 R.height, vp, vs, .bool R.falls, .bool R.keeps, ve, .int .i64 R.blocked, .int .i64 R.quiet, .int .i64 R.rept] 43)).alloc (.cells #[.int .i64 x.width, .int .i64 x.height, vx, .int .i64 x.turn] 45)).alloc (.cells #[vc, v0, v1, .int .i64 p.turn, .int .i64 p.quiet] 51)) (w.heap.size) [.string R.name, .int .i64 R.width, .int .i64 R.height, vp, vs, .bool R.falls, .bool R.keeps, ve, .int .i64 R.blocked, .int .i64 R.quiet, .int .i64 R.rept] 43 := (((Box.new' w (w.heap.size) [.string R.name, .int .i64 R.width, .int .i64 R.height, vp, vs, .bool R.falls, .bool R.keeps, ve, .int .i64 R.blocked, .int .i64 R.quiet, .int .i64 R.rept] 43 (by simp <;> omega)).alloc _).alloc _)
  have B1 : Box (((w.alloc (.cells #[.string R.name, .int .i64 R.width, .int .i64 R.height, vp, vs, .bool R.falls, .bool R.keeps, ve, .int .i64 R.blocked, .int .i64 R.quiet, .int .i64 R.rept] 43)).alloc (.cells #[.int .i64 x.width, .int .i64 x.height, vx, .int .i64 x.turn] 45)).alloc (.cells #[vc, v0, v1, .int .i64 p.turn, .int .i64 p.quiet] 51)) (w.heap.size + 1) [.int .i64 x.width, .int .i64 x.height, vx, .int .i64 x.turn] 45 := ((Box.new' (w.alloc (.cells #[.string R.name, .int .i64 R.width, .int .i64 R.height, vp, vs, .bool R.falls, .bool R.keeps, ve, .int .i64 R.blocked, .int .i64 R.quiet, .int .i64 R.rept] 43)) (w.heap.size + 1) [.int .i64 x.width, .int .i64 x.height, vx, .int .i64 x.turn] 45 (by simp <;> omega)).alloc _)
  have B2 : Box (((w.alloc (.cells #[.string R.name, .int .i64 R.width, .int .i64 R.height, vp, vs, .bool R.falls, .bool R.keeps, ve, .int .i64 R.blocked, .int .i64 R.quiet, .int .i64 R.rept] 43)).alloc (.cells #[.int .i64 x.width, .int .i64 x.height, vx, .int .i64 x.turn] 45)).alloc (.cells #[vc, v0, v1, .int .i64 p.turn, .int .i64 p.quiet] 51)) (w.heap.size + 1 + 1) [vc, v0, v1, .int .i64 p.turn, .int .i64 p.quiet] 51 := (Box.new' ((w.alloc (.cells #[.string R.name, .int .i64 R.width, .int .i64 R.height, vp, vs, .bool R.falls, .bool R.keeps, ve, .int .i64 R.blocked, .int .i64 R.quiet, .int .i64 R.rept] 43)).alloc (.cells #[.int .i64 x.width, .int .i64 x.height, vx, .int .i64 x.turn] 45)) (w.heap.size + 1 + 1) [vc, v0, v1, .int .i64 p.turn, .int .i64 p.quiet] 51 (by simp <;> omega))
  have HB : Hid (Below w.heap.size w (((w.alloc (.cells #[.string R.name, .int .i64 R.width, .int .i64 R.height, vp, vs, .bool R.falls, .bool R.keeps, ve, .int .i64 R.blocked, .int .i64 R.quiet, .int .i64 R.rept] 43)).alloc (.cells #[.int .i64 x.width, .int .i64 x.height, vx, .int .i64 x.turn] 45)).alloc (.cells #[vc, v0, v1, .int .i64 p.turn, .int .i64 p.quiet] 51))) := Lib.hid ((((Below.refl w.heap.size w).alloc (Nat.le_refl _) _).alloc (by simp <;> omega) _).alloc (by simp <;> omega) _)
  have hz0 : w.heap.size + 1 + 1 < (((w.alloc (.cells #[.string R.name, .int .i64 R.width, .int .i64 R.height, vp, vs, .bool R.falls, .bool R.keeps, ve, .int .i64 R.blocked, .int .i64 R.quiet, .int .i64 R.rept] 43)).alloc (.cells #[.int .i64 x.width, .int .i64 x.height, vx, .int .i64 x.turn] 45)).alloc (.cells #[vc, v0, v1, .int .i64 p.turn, .int .i64 p.quiet] 51)).heap.size := by simp
  generalize (((w.alloc (.cells #[.string R.name, .int .i64 R.width, .int .i64 R.height, vp, vs, .bool R.falls, .bool R.keeps, ve, .int .i64 R.blocked, .int .i64 R.quiet, .int .i64 R.rept] 43)).alloc (.cells #[.int .i64 x.width, .int .i64 x.height, vx, .int .i64 x.turn] 45)).alloc (.cells #[vc, v0, v1, .int .i64 p.turn, .int .i64 p.quiet] 51)) = w0 at *
  have HRw := Lib.hid (HR.out.below HB.out (Nat.le_refl _))
  have HXw := Lib.hid (HX.out.below HB.out (Nat.le_refl _))
  have HPw := Lib.hid (HP.out.below HB.out (Nat.le_refl _))
  have HB0 := Lib.hid B0
  have HB1 := Lib.hid B1
  have HB2 := Lib.hid B2
  clear B0 B1 B2
  refine wp_region_lit ?_
  refine wpList_load_box (by rfl) 43 (.tmp 3) (by rfl) (w.heap.size) (by rfl) HB0.out Try.underlying43 (by rfl) (by kernel_rfl) ?_
  refine wpList_load_box (by rfl) 45 (.tmp 4) (by rfl) (w.heap.size + 1) (by rfl) HB1.out Try.underlying45 (by rfl) (by kernel_rfl) ?_
  refine wpList_load_box (by rfl) 51 (.tmp 5) (by rfl) (w.heap.size + 1 + 1) (by rfl) HB2.out Try.underlying51 (by rfl) (by kernel_rfl) ?_
  go_wp2_with fail
  refine (patcheck_any R vp vs ve x vx p vc v0 v1 w0 HRw.out HN.out HXw.out HPw.out).mono ?_
  rintro e w1 ⟨rfl, hb1⟩
  have HL1 := Lib.hid (below_trans HB.out hb1 HB.out.size)
  have HC0 := Lib.hid (HB0.out.stays hb1)
  have HC1 := Lib.hid (HB1.out.stays hb1)
  have HC2 := Lib.hid (HB2.out.stays hb1)
  clear hb1 HB0 HB1 HB2
  by_cases he : chkErr R x p = 0
  rotate_left
  · have HNE := Lib.hid he
    have he' : (chkErr R x p != 0) = true := by simpa using he
    clear he
    go_wp2_with fail
    go_ret2
    exact .inl ⟨HNE.out, rfl, HL1.out⟩
  have HE := Lib.hid he
  rw [he]
  clear he
  go_upto_region 4 with (fail)
  refine wp_region_lit ?_
  refine wpList_load_box (by rfl) 43 (.tmp 3) (by rfl) (w.heap.size) (by rfl) HC0.out Try.underlying43 (by rfl) (by kernel_rfl) ?_
  refine wpList_load_box (by rfl) 45 (.tmp 4) (by rfl) (w.heap.size + 1) (by rfl) HC1.out Try.underlying45 (by rfl) (by kernel_rfl) ?_
  refine wpList_load_box (by rfl) 51 (.tmp 5) (by rfl) (w.heap.size + 1 + 1) (by rfl) HC2.out Try.underlying51 (by rfl) (by kernel_rfl) ?_
  go_wp2_with fail
  refine (list_any R vp vs ve x vx p vc v0 v1 w1 (HX.out.below HL1.out (Nat.le_refl _)) (HP.out.below HL1.out (Nat.le_refl _)) (fun s h0 h1 => fit_of (chk_parts HE.out).1 (chk_parts HE.out).2 h0 h1) (pos_len (chk_parts HE.out).2)).mono ?_
  rintro e w2 ⟨v, rfl, ho2, hb2⟩
  obtain ⟨a2, c2, rfl⟩ := own_form2 ho2
  have HO2 := Lib.hid (own_base ho2 HL1.out.size)
  have HL2 := Lib.hid (below_trans HL1.out hb2 HL1.out.size)
  clear ho2 hb2
  go_wp2_with fail
  go_ret2
  exact .inr ⟨HE.out, _, rfl, HO2.out, HL2.out⟩

end Go.Proofs.Ythddenadehhbdaa
