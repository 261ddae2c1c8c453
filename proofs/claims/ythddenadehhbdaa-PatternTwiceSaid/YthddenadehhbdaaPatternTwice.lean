/- PatternTwice: a pattern that is mirrored twice is itself. For every input, no condition. -/
import Derived.Test.YthddenadehhbdaaPatM
import Derived.Test.YthddenadehhbdaaPatP
import Derived.Test.YthddenadehhbdaaOpenX
namespace Go.Proofs.Ythddenadehhbdaa.patternTwice
open Go.ChangeShapes Go.WideShapes Go.ChangeAt Go.RowKit
set_option linter.unusedVariables false

theorem pat_back {R : RulesZ} {x : PatZ} {ys : List Int} (h : patErr R x = 0) (hl : ys.length = x.cells.length) (hm : ∀ c ∈ ys, c ∈ x.cells) : patErr R ⟨x.width, x.height, ys, x.turn⟩ = 0 := by
  obtain ⟨h1, h2, h3, h4, h5, h6⟩ := patOk h
  unfold patErr
  rw [if_neg (by simp [h1]), if_neg (by simp only [(wb_iff _ _ _).2 h2, (wb_iff _ _ _).2 h3]; simp), if_neg (by simp only [hl, h4]; simp)]
  have : ¬ ys.any (fun z => !wb z (-3) (2 * (R.pieces.length : Int))) = true := by
    simp only [List.any_eq_true, not_exists, not_and, Bool.not_eq_true]
    intro c hc
    rw [(wb_iff _ _ _).2 (h5 c (hm c hc))]; rfl
  rw [if_neg this, if_neg (by simp only [(wb_iff _ _ _).2 h6]; simp)]
theorem mir_mem {xs ys : List Int} {W H : Nat} (hW : 0 < W) (hl : xs.length = W * H) (hy : ys.length = xs.length) (h : ∀ j, j < xs.length → ys.getD j 0 = xs.getD (mir W j) 0) : ∀ c ∈ ys, c ∈ xs := by
  intro c hc
  obtain ⟨j, hj, rfl⟩ := List.mem_iff_getElem.1 hc
  have hj' : j < xs.length := by omega
  have e := h j hj'
  have hlt : mir W j < xs.length := by rw [hl]; exact mir_lt hW (by omega)
  rw [List.getD_eq_getElem?_getD, List.getElem?_eq_getElem hj, List.getD_eq_getElem?_getD, List.getElem?_eq_getElem hlt] at e
  simp only [Option.getD_some] at e
  rw [e]
  exact List.getElem_mem hlt
theorem twice_eq {xs ys zs : List Int} {W H : Nat} (hW : 0 < W) (hl : xs.length = W * H) (hy : ys.length = xs.length) (hz : zs.length = ys.length) (h1 : ∀ j, j < xs.length → ys.getD j 0 = xs.getD (mir W j) 0)
    (h2 : ∀ j, j < ys.length → zs.getD j 0 = ys.getD (mir W j) 0) : zs = xs := by
  refine List.ext_getElem (by omega) fun j h3 h4 => ?_
  have a := h2 j (by omega)
  have hlt : mir W j < xs.length := by rw [hl]; exact mir_lt hW (by omega)
  rw [h1 _ hlt, mir_mir hW] at a
  rw [List.getD_eq_getElem?_getD, List.getElem?_eq_getElem h3, List.getD_eq_getElem?_getD, List.getElem?_eq_getElem h4] at a
  simpa using a
/-- a valid pattern, mirrored. -/
theorem pat_mir {R : RulesZ} {x : PatZ} {ys : List Int} (h : patErr R x = 0) (hl : ys.length = x.cells.length) (hm : ∀ j, j < x.cells.length → ys.getD j 0 = x.cells.getD (mir x.width.toNat j) 0) :
    patErr R ⟨x.width, x.height, ys, x.turn⟩ = 0 ∧ ∀ zs : List Int, zs.length = ys.length → (∀ j, j < ys.length → zs.getD j 0 = ys.getD (mir x.width.toNat j) 0) → zs = x.cells := by
  obtain ⟨h1, h2, h3, h4, h5, h6⟩ := patOk h
  have hL : x.cells.length = x.width.toNat * x.height.toNat := by
    have e1 : ((x.width.toNat : Nat) : Int) = x.width := Int.toNat_of_nonneg (by omega)
    have e2 : ((x.height.toNat : Nat) : Int) = x.height := Int.toNat_of_nonneg (by omega)
    have : (x.cells.length : Int) = ((x.width.toNat * x.height.toNat : Nat) : Int) := by rw [h4, Int.natCast_mul, e1, e2]
    exact_mod_cast this
  have hW : 0 < x.width.toNat := by omega
  exact ⟨pat_back h hl (mir_mem hW hL hl hm), fun zs hz hm2 => twice_eq hW hL hl hz hm hm2⟩

set_option maxRecDepth 100000 in
set_option maxHeartbeats 4000000 in
theorem walk (R : RulesZ) (vp vs ve : Value) (x : PatZ) (vx : Value) (w : World) (h : RdR w R vp vs ve) (hnm : R.name.size ≤ maxLen) (hx : RdI w vx x.cells) :
    Calls Try.prog 6 #[(.agg #[.string R.name, .int .i64 R.width, .int .i64 R.height, vp, vs, .bool R.falls, .bool R.keeps, ve, .int .i64 R.blocked, .int .i64 R.quiet, .int .i64 R.rept]), .agg #[.int .i64 x.width, .int .i64 x.height, vx, .int .i64 x.turn]] w fun e w' => e = .returned (.bool true) ∧ Below w.heap.size w w' := by
  have HR := Lib.hid h
  have HX := Lib.hid hx
  have HN := Lib.hid hnm
  obtain ⟨ax, cx, rfl, hx1, hx2⟩ := hx.form
  unfold maxLen at hx2
  clear h hnm hx
  go_enter Try.func6, Try.ntmps6
  go_wp2_with fail
  have b0 : Box ((w.alloc (.cells #[.string R.name, .int .i64 R.width, .int .i64 R.height, vp, vs, .bool R.falls, .bool R.keeps, ve, .int .i64 R.blocked, .int .i64 R.quiet, .int .i64 R.rept] 43)).alloc (.cells #[.int .i64 x.width, .int .i64 x.height, .slice ax x.cells.length cx, .int .i64 x.turn] 45)) w.heap.size [.string R.name, .int .i64 R.width, .int .i64 R.height, vp, vs, .bool R.falls, .bool R.keeps, ve, .int .i64 R.blocked, .int .i64 R.quiet, .int .i64 R.rept] 43 := (Box.new w _ _).alloc _
  have b1 : Box ((w.alloc (.cells #[.string R.name, .int .i64 R.width, .int .i64 R.height, vp, vs, .bool R.falls, .bool R.keeps, ve, .int .i64 R.blocked, .int .i64 R.quiet, .int .i64 R.rept] 43)).alloc (.cells #[.int .i64 x.width, .int .i64 x.height, .slice ax x.cells.length cx, .int .i64 x.turn] 45)) (w.heap.size + 1) [.int .i64 x.width, .int .i64 x.height, .slice ax x.cells.length cx, .int .i64 x.turn] 45 := by
    have hbx := Box.new (w.alloc (.cells #[.string R.name, .int .i64 R.width, .int .i64 R.height, vp, vs, .bool R.falls, .bool R.keeps, ve, .int .i64 R.blocked, .int .i64 R.quiet, .int .i64 R.rept] 43)) [.int .i64 x.width, .int .i64 x.height, .slice ax x.cells.length cx, .int .i64 x.turn] 45
    rw [World.size_alloc] at hbx
    exact hbx
  refine (patterns_any _).mono ?_
  rintro e w1 ⟨rfl, hb1⟩
  have B0 := Lib.hid (b0.stays hb1)
  have B1 := Lib.hid (b1.stays hb1)
  have HB : Hid (Below w.heap.size w w1) := Lib.hid ((((Below.refl _ _).alloc (Nat.le_refl _) _).alloc (by go_size) _).trans (hb1.mono (by go_size)))
  have z0 := (b0.stays hb1).lt
  have z1 := (b1.stays hb1).lt
  clear b0 b1 hb1
  go_upto_region 3 with (fail)
  refine wp_region_lit ?_
  refine wpList_load_box (by rfl) 43 (.tmp 2) (by rfl) w.heap.size (by rfl) B0.out Try.underlying43 (by rfl) (by kernel_rfl) ?_
  refine wpList_load_box (by rfl) 45 (.tmp 3) (by rfl) (w.heap.size + 1) (by rfl) B1.out Try.underlying45 (by rfl) (by kernel_rfl) ?_
  go_wp2_with fail
  refine (Mirror_any R vp vs ve x _ w1 (HR.out.below HB.out (Nat.le_refl _)) HN.out (HX.out.below HB.out (Nat.le_refl _))).mono ?_
  rintro e w2 (⟨hbad, rfl, hb2⟩ | ⟨hok, vy, ys, rfl, hry, hyl, hym, hb2⟩)
  · have h0 : (patErr R x != 0) = true := by simpa using hbad
    have HB2 := Lib.hid (below_trans HB.out hb2 HB.out.size)
    clear hbad hb2
    unfold zeroPat
    go_wp2_with fail
    go_ret
    exact ⟨rfl, HB2.out.alloc HB2.out.size _⟩
  obtain ⟨hbk, huq⟩ := pat_mir hok hyl hym
  obtain ⟨ay, cy, rfl, hy1, hy2⟩ := hry.form
  unfold maxLen at hy2
  have HUQ := Lib.hid huq
  have HBK := Lib.hid hbk
  have HYL := Lib.hid hyl
  have HRY := Lib.hid hry
  have B0' := Lib.hid ((B0.out.stays hb2).alloc (.cells #[.int .i64 x.width, .int .i64 x.height, .slice ay ys.length cy, .int .i64 x.turn] 45))
  have B1' := Lib.hid ((B1.out.stays hb2).alloc (.cells #[.int .i64 x.width, .int .i64 x.height, .slice ay ys.length cy, .int .i64 x.turn] 45))
  have B2' := Lib.hid (Box.new w2 [.int .i64 x.width, .int .i64 x.height, .slice ay ys.length cy, .int .i64 x.turn] 45)
  have HB2 := Lib.hid (below_trans HB.out hb2 HB.out.size)
  clear hok hyl hym hb2 hry huq hbk
  go_upto_region 6 with (fail)
  refine wp_region_lit ?_
  refine wpList_load_box (by rfl) 43 (.tmp 2) (by rfl) w.heap.size (by rfl) B0'.out Try.underlying43 (by rfl) (by kernel_rfl) ?_
  refine wpList_load_box (by rfl) 45 (.tmp 5) (by rfl) w2.heap.size (by rfl) B2'.out Try.underlying45 (by rfl) (by kernel_rfl) ?_
  go_wp2_with fail
  have HB3 := Lib.hid (HB2.out.alloc HB2.out.size (.cells #[.int .i64 x.width, .int .i64 x.height, .slice ay ys.length cy, .int .i64 x.turn] 45))
  have HRY3 := Lib.hid (HRY.out.alloc (.cells #[.int .i64 x.width, .int .i64 x.height, .slice ay ys.length cy, .int .i64 x.turn] 45))
  have hz3 : w2.heap.size < (w2.alloc (.cells #[.int .i64 x.width, .int .i64 x.height, .slice ay ys.length cy, .int .i64 x.turn] 45)).heap.size := by simp
  generalize (w2.alloc (.cells #[.int .i64 x.width, .int .i64 x.height, .slice ay ys.length cy, .int .i64 x.turn] 45)) = w3 at *
  refine (Mirror_any R vp vs ve ⟨x.width, x.height, ys, x.turn⟩ _ w3 (HR.out.below HB3.out (Nat.le_refl _)) HN.out HRY3.out).mono ?_
  rintro e w4 (⟨hbad, -⟩ | ⟨-, vz, zs, rfl, hrz, hzl, hzm, hb4⟩)
  · exact absurd HBK.out hbad
  obtain rfl : x.cells = zs := (HUQ.out zs hzl hzm).symm
  obtain ⟨az, cz, rfl, hz1, hz2⟩ := hrz.form
  unfold maxLen at hz2
  have hne : (x.cells.length == x.cells.length) = true := by simp
  have B1z := Lib.hid ((B1'.out.stays hb4).alloc (.cells #[.int .i64 x.width, .int .i64 x.height, .slice az x.cells.length cz, .int .i64 x.turn] 45))
  have B3z := Lib.hid (Box.new w4 [.int .i64 x.width, .int .i64 x.height, .slice az x.cells.length cz, .int .i64 x.turn] 45)
  have HB4 := Lib.hid ((below_trans HB3.out hb4 HB3.out.size).alloc (below_trans HB3.out hb4 HB3.out.size).size (.cells #[.int .i64 x.width, .int .i64 x.height, .slice az x.cells.length cz, .int .i64 x.turn] 45))
  have HRZ4 := Lib.hid (hrz.alloc (.cells #[.int .i64 x.width, .int .i64 x.height, .slice az x.cells.length cz, .int .i64 x.turn] 45))
  have HX4 := Lib.hid (HX.out.below HB4.out (Nat.le_refl _))
  clear hb4 hrz hzl hzm
  go_upto_region 7 with (fail)
  generalize (w4.alloc (.cells #[.int .i64 x.width, .int .i64 x.height, .slice az x.cells.length cz, .int .i64 x.turn] 45)) = w5 at *
  have x0 := B1z.out.cell 0 rfl
  have x1 := B1z.out.cell 1 rfl
  have x2 := B1z.out.cell 2 rfl
  have x3 := B1z.out.cell 3 rfl
  have y0 := B3z.out.cell 0 rfl
  have y1 := B3z.out.cell 1 rfl
  have y2 := B3z.out.cell 2 rfl
  have y3 := B3z.out.cell 3 rfl
  go_wp2_with fail
  go_loopw [9, 66] (fun s i wr => ∃ k : Nat, k ≤ x.cells.length ∧ s = .bool true ∧ i = .int .i64 k ∧ Hid (Below w5.heap.size w5 wr)) (fun _ i _ => x.cells.length - (intOf i).toNat)
  case atStart => exact ⟨0, Nat.zero_le _, rfl, rfl, Lib.hid (Below.refl _ _)⟩
  case round =>
    obtain ⟨k, hk, rfl, rfl, HBr⟩ := hrel
    have q2 := (B1z.out.stays HBr.out).cell 2 rfl
    have q6 := (B3z.out.stays HBr.out).cell 2 rfl
    by_cases hlt : k < x.cells.length
    · obtain ⟨gx, ox, c1, e1, _, _, _, cx1⟩ := (HX4.out.below HBr.out (Nat.le_refl _)).some (by omega)
      obtain ⟨gz, oz, c2, e2, _, _, _, cz1⟩ := (HRZ4.out.below HBr.out (Nat.le_refl _)).some (by omega)
      simp only [Value.slice.injEq] at e1 e2
      obtain ⟨rfl, _, rfl⟩ := e1
      obtain ⟨rfl, _, rfl⟩ := e2
      have k1 := cx1 k hlt
      have k2 := cz1 k hlt
      clear cx1 cz1 x0 x1 x2 x3 y0 y1 y2 y3
      generalize x.cells.getD k 0 = y at *
      go_wp2_with fail
      go_quiet (fail)
      go_wp2_with fail
      go_roundw
      case rel => exact ⟨k + 1, by omega, rfl, by go_num, Lib.hid (below_drewN HBr.out _)⟩
      case measure => simp [intOf]; omega
    · go_wp2_with fail
      go_ret
      exact ⟨rfl, below_trans HB4.out HBr.out HB4.out.size⟩

section
theorem own : ownKnob Try.prog.godebug = none := by kernel_rfl
theorem laidOut : laidOutB Try.prog = true := by kernel_rfl

set_option maxRecDepth 100000 in
theorem lifted (os : Os) (started : os.Started) (H : Type) (enc : TypeId × Value → H) :
    ReturnsInHanded {} Try.checked os 6 .any (Rows.patternTwiceSpec.pre6 enc Try.prog Try.f6 Rows.patternTwiceRow.domain false) (Rows.patternTwiceSpec.post enc Try.prog Try.f6 false true false false) := by
  refine returnsInHanded_of_change (C := Try.checked) own started (by kernel_rfl) Try.func6
    (ChangeSpec.witness6 (enc := enc) (C := Try.checked) false ⟨#[], #[.agg #[.string ByteArray.empty, .int .i64 0, .int .i64 0, .slice none 0 0, .slice none 0 0, .bool false, .bool false, .slice none 0 0, .int .i64 0, .int .i64 0, .int .i64 0], .agg #[.int .i64 0, .int .i64 0, .slice none 0 0, .int .i64 0]], []⟩ 8 (by kernel_rfl) (by kernel_rfl) (by kernel_rfl) (by kernel_rfl)) ?_
  intro W base args ds gs before hval0 hW hcnd _
  have hval : ∀ (j : Nat) t v, Try.f6.params[j]? = some t → args[j]? = some v → Value.okWide Try.prog W .any base t v := hval0
  have hW' := hW
  obtain ⟨p, q, hA0, hV, rfl, hfz, hnd⟩ := hW
  have hA : DataW.TrodAll enc Try.prog W 0 (fun _ => true) true Try.f6.params.toList args.toList ds p := hA0
  rw [Try.params6] at hA hval
  have hAll := hA
  obtain ⟨v0, vs0, d0, ds0, p0, q0, hargs, rfl, rfl, h0, r0⟩ := trodAll_cons hA
  obtain ⟨v1, vs1, d1, ds1, p1, q1, rfl, rfl, rfl, h1, r1⟩ := trodAll_cons r0
  obtain ⟨rfl, rfl, rfl⟩ := trodAll_nil r1
  obtain rfl : args = #[v0, v1] := by cases args; simp_all
  obtain ⟨rfl, rfl⟩ := trodVars_none hV
  obtain ⟨R, vp, vs, ve, rfl, hr, hn⟩ := open_R (hval 0 43 v0 rfl rfl) h0
  obtain ⟨xw, xh, xt, vx, xc, rfl, hx⟩ := open_X (hval 1 45 v1 rfl rfl) h1
  clear hA0 hval0
  refine (walk R vp vs ve ⟨xw, xh, xc, xt⟩ vx W hr hn hx).mono fun e W' ⟨he, bel⟩ => ?_
  subst he
  exact ⟨_, rfl, _, _, _, [], _, [], hW', trodAll_mk1 (shut_bool Try.underlying4 _), trodAll_stays laidOut bel (by kernel_rfl) hAll, rfl, bel.frame _, fun h => by cases h⟩

theorem over : Rows.patternTwiceRow.holds Try.pinned (OpenSpec.ofChange Rows.patternTwiceSpec) :=
  OpenClaim.holds_of_wide 6 Try.f6 rfl rfl rfl rfl rfl rfl rfl ⟨rfl, rfl, rfl, rfl, rfl⟩ rfl rfl rfl rfl rfl (by kernel_rfl) Try.func6 (by kernel_rfl)
    (of_decide_eq_true (by kernel_rfl)) (by unfold Func.isWrapper; first | (rw [if_pos (by decide +kernel)]; kernel_rfl) | (rw [if_neg (by decide +kernel)]; exact ⟨rfl, rfl⟩))
    (fun os started H enc _ => lifted os started H enc)

theorem proved : Rows.PatternTwiceSaid := over
end
#print axioms proved

end Go.Proofs.Ythddenadehhbdaa.patternTwice
