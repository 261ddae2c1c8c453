/- The contracts of place.Other, bHeavy, bScored. -/
import Derived.Test.YtaacfoeleblfbaaSymA
namespace Go.Proofs.Ytaacfoeleblfbaa
open Go.ChangeShapes Go.WideShapes Go.ChangeAt Go.RowKit
set_option linter.unusedVariables false

def OtherPost (R : RulesZ) (p : PosZ) (w : World) (e : Ending) (w' : World) : Prop :=
  (posErr R p ≠ 0 ∧ e = .returned (.tuple #[.agg #[.slice none 0 0, .slice none 0 0, .slice none 0 0, .int .i64 0, .int .i64 0], .int .i64 (posErr R p)]) ∧ Below w.heap.size w w') ∨
  (posErr R p = 0 ∧ ∃ (a0 a1 a2 : Option Addr) (c0 c1 c2 : Nat), e = .returned (.tuple #[.agg #[.slice a0 (exZ R p).cells.length c0, .slice a1 (exZ R p).h0.length c1, .slice a2 (exZ R p).h1.length c2, .int .i64 (exZ R p).turn, .int .i64 (exZ R p).quiet], .int .i64 0]) ∧
    RdP w' (exZ R p) (.slice a0 (exZ R p).cells.length c0) (.slice a1 (exZ R p).h0.length c1) (.slice a2 (exZ R p).h1.length c2) ∧ Below w.heap.size w w')
set_option maxRecDepth 100000 in
set_option maxHeartbeats 4000000 in
theorem Other_any (R : RulesZ) (vp vs ve : Value) (p : PosZ) (vc v0 v1 : Value) (w : World) (hr : RdR w R vp vs ve) (hnm : R.name.size ≤ maxLen) (hp : RdP w p vc v0 v1) :
    Calls Try.prog 5 #[(.agg #[.string R.name, .int .i64 R.width, .int .i64 R.height, vp, vs, .bool R.falls, .bool R.keeps, ve, .int .i64 R.blocked, .int .i64 R.quiet, .int .i64 R.rept]), (.agg #[vc, v0, v1, .int .i64 p.turn, .int .i64 p.quiet])] w (OtherPost R p w) := by
  have HR := Lib.hid hr
  have HN := Lib.hid hnm
  have HP := Lib.hid hp
  obtain ⟨ac, cc, hv, hc1, hc2⟩ := hp.1.form
  obtain ⟨ac0, cc0, hv0, -, -⟩ := hp.2.1.form
  obtain ⟨ac1, cc1, hv1, -, -⟩ := hp.2.2.form
  subst hv hv0 hv1
  unfold maxLen at hc2
  clear hr hnm hp
  go_enter Try.func5, Try.ntmps5
  go_upto_region 1 with (fail)
  have B0 : Box (((w.alloc (.cells #[.string R.name, .int .i64 R.width, .int .i64 R.height, vp, vs, .bool R.falls, .bool R.keeps, ve, .int .i64 R.blocked, .int .i64 R.quiet, .int .i64 R.rept] 26)).alloc (.cells #[.slice ac p.cells.length cc, .slice ac0 p.h0.length cc0, .slice ac1 p.h1.length cc1, .int .i64 p.turn, .int .i64 p.quiet] 29)).alloc (.cells #[.slice none 0 0, .slice none 0 0, .slice none 0 0, .int .i64 0, .int .i64 0] 29)) (w.heap.size) [.string R.name, .int .i64 R.width, .int .i64 R.height, vp, vs, .bool R.falls, .bool R.keeps, ve, .int .i64 R.blocked, .int .i64 R.quiet, .int .i64 R.rept] 26 := (((Box.new' w (w.heap.size) [.string R.name, .int .i64 R.width, .int .i64 R.height, vp, vs, .bool R.falls, .bool R.keeps, ve, .int .i64 R.blocked, .int .i64 R.quiet, .int .i64 R.rept] 26 (by simp <;> omega)).alloc _).alloc _)
  have B1 : Box (((w.alloc (.cells #[.string R.name, .int .i64 R.width, .int .i64 R.height, vp, vs, .bool R.falls, .bool R.keeps, ve, .int .i64 R.blocked, .int .i64 R.quiet, .int .i64 R.rept] 26)).alloc (.cells #[.slice ac p.cells.length cc, .slice ac0 p.h0.length cc0, .slice ac1 p.h1.length cc1, .int .i64 p.turn, .int .i64 p.quiet] 29)).alloc (.cells #[.slice none 0 0, .slice none 0 0, .slice none 0 0, .int .i64 0, .int .i64 0] 29)) (w.heap.size + 1) [.slice ac p.cells.length cc, .slice ac0 p.h0.length cc0, .slice ac1 p.h1.length cc1, .int .i64 p.turn, .int .i64 p.quiet] 29 := ((Box.new' (w.alloc (.cells #[.string R.name, .int .i64 R.width, .int .i64 R.height, vp, vs, .bool R.falls, .bool R.keeps, ve, .int .i64 R.blocked, .int .i64 R.quiet, .int .i64 R.rept] 26)) (w.heap.size + 1) [.slice ac p.cells.length cc, .slice ac0 p.h0.length cc0, .slice ac1 p.h1.length cc1, .int .i64 p.turn, .int .i64 p.quiet] 29 (by simp <;> omega)).alloc _)
  have B2 : Box (((w.alloc (.cells #[.string R.name, .int .i64 R.width, .int .i64 R.height, vp, vs, .bool R.falls, .bool R.keeps, ve, .int .i64 R.blocked, .int .i64 R.quiet, .int .i64 R.rept] 26)).alloc (.cells #[.slice ac p.cells.length cc, .slice ac0 p.h0.length cc0, .slice ac1 p.h1.length cc1, .int .i64 p.turn, .int .i64 p.quiet] 29)).alloc (.cells #[.slice none 0 0, .slice none 0 0, .slice none 0 0, .int .i64 0, .int .i64 0] 29)) (w.heap.size + 1 + 1) [.slice none 0 0, .slice none 0 0, .slice none 0 0, .int .i64 0, .int .i64 0] 29 := (Box.new' ((w.alloc (.cells #[.string R.name, .int .i64 R.width, .int .i64 R.height, vp, vs, .bool R.falls, .bool R.keeps, ve, .int .i64 R.blocked, .int .i64 R.quiet, .int .i64 R.rept] 26)).alloc (.cells #[.slice ac p.cells.length cc, .slice ac0 p.h0.length cc0, .slice ac1 p.h1.length cc1, .int .i64 p.turn, .int .i64 p.quiet] 29)) (w.heap.size + 1 + 1) [.slice none 0 0, .slice none 0 0, .slice none 0 0, .int .i64 0, .int .i64 0] 29 (by simp <;> omega))
  have HB : Hid (Below w.heap.size w (((w.alloc (.cells #[.string R.name, .int .i64 R.width, .int .i64 R.height, vp, vs, .bool R.falls, .bool R.keeps, ve, .int .i64 R.blocked, .int .i64 R.quiet, .int .i64 R.rept] 26)).alloc (.cells #[.slice ac p.cells.length cc, .slice ac0 p.h0.length cc0, .slice ac1 p.h1.length cc1, .int .i64 p.turn, .int .i64 p.quiet] 29)).alloc (.cells #[.slice none 0 0, .slice none 0 0, .slice none 0 0, .int .i64 0, .int .i64 0] 29))) := Lib.hid ((((Below.refl w.heap.size w).alloc (Nat.le_refl _) _).alloc (by simp <;> omega) _).alloc (by simp <;> omega) _)
  have hz0 : w.heap.size + 1 + 1 < (((w.alloc (.cells #[.string R.name, .int .i64 R.width, .int .i64 R.height, vp, vs, .bool R.falls, .bool R.keeps, ve, .int .i64 R.blocked, .int .i64 R.quiet, .int .i64 R.rept] 26)).alloc (.cells #[.slice ac p.cells.length cc, .slice ac0 p.h0.length cc0, .slice ac1 p.h1.length cc1, .int .i64 p.turn, .int .i64 p.quiet] 29)).alloc (.cells #[.slice none 0 0, .slice none 0 0, .slice none 0 0, .int .i64 0, .int .i64 0] 29)).heap.size := by simp
  generalize (((w.alloc (.cells #[.string R.name, .int .i64 R.width, .int .i64 R.height, vp, vs, .bool R.falls, .bool R.keeps, ve, .int .i64 R.blocked, .int .i64 R.quiet, .int .i64 R.rept] 26)).alloc (.cells #[.slice ac p.cells.length cc, .slice ac0 p.h0.length cc0, .slice ac1 p.h1.length cc1, .int .i64 p.turn, .int .i64 p.quiet] 29)).alloc (.cells #[.slice none 0 0, .slice none 0 0, .slice none 0 0, .int .i64 0, .int .i64 0] 29)) = w0 at *
  have HX := Lib.hid B0
  have HY := Lib.hid B1
  have HU := Lib.hid B2
  clear B0 B1 B2
  refine wp_region_lit ?_
  refine wpList_load_box (by rfl) 26 (.tmp 2) (by rfl) (w.heap.size) (by rfl) HX.out Try.underlying26 (by rfl) (by kernel_rfl) ?_
  refine wpList_load_box (by rfl) 29 (.tmp 3) (by rfl) (w.heap.size + 1) (by rfl) HY.out Try.underlying29 (by rfl) (by kernel_rfl) ?_
  go_wp2_with fail
  refine (placeCheck_any R vp vs ve p _ _ _ w0 (HR.out.below HB.out (Nat.le_refl _)) HN.out (HP.out.below HB.out (Nat.le_refl _))).mono ?_
  rintro e w1 ⟨rfl, hb1⟩
  have HB1 := Lib.hid (below_trans HB.out hb1 HB.out.size)
  have HX1 := Lib.hid (HX.out.below hb1 (by omega))
  have HY1 := Lib.hid (HY.out.below hb1 (by omega))
  have HU1 := Lib.hid (HU.out.below hb1 (by omega))
  clear hb1 HX HY HU HB hz0
  by_cases he : posErr R p = 0
  rotate_left
  · have HE := Lib.hid he
    have heb : (posErr R p != 0) = true := by simpa using he
    clear he
    go_wp2_with (refine wpList_store_box (vs := [.slice none 0 0, .slice none 0 0, .slice none 0 0, .int .i64 0, .int .i64 0]) (by rfl) 29 (.tmp 4) (.tmp 13) (by rfl) (w.heap.size + 1 + 1) (by rfl) (by rfl) HU1.out rfl (by kernel_rfl) (by rfl) ?_)
    exact bodyPost_ret (results_box rfl (by rfl) (by rfl) (HU1.out.store rfl) Try.underlying29 (by rfl) (by kernel_rfl)) rfl (.inl ⟨HE.out, rfl, below_setCells HB1.out (by omega) 0 _⟩)
  have HZE := Lib.hid he
  have HK := Lib.hid (pok_of he)
  rw [he]
  clear he
  go_upto_region 4 with (fail)
  refine wp_region_lit ?_
  refine wpList_load_box (by rfl) 29 (.tmp 3) (by rfl) (w.heap.size + 1) (by rfl) HY1.out Try.underlying29 (by rfl) (by kernel_rfl) ?_
  go_wp2_with fail
  refine (Copy_any p _ _ _ w1 (HP.out.below HB1.out (Nat.le_refl _)) (by have := HK.out.len; omega) (by have := HK.out.l0; have := HK.out.r.np; omega) (by have := HK.out.l1; have := HK.out.r.np; omega)).mono ?_
  rintro e w2 ⟨yc, y0, y1, rfl, ho2, hb2⟩
  have hs2 : w1.heap.size ≤ w2.heap.size := hb2.size
  have hu1 : w.heap.size + 1 + 1 < w1.heap.size := HU1.out.lt
  have HH2 : Hid (Held (fun k => k = w2.heap.size ∨ k = w.heap.size + 1 + 1) w2 fun w' => RdP w' p yc y0 y1) := Lib.hid ((ownP_held ho2 (fun k h1 h2 hk => by rcases hk with rfl | rfl <;> omega)).imp fun _ h => h.rd)
  obtain ⟨ya, yn, rfl⟩ := own_form2 ho2.1
  obtain ⟨ya0, yn0, rfl⟩ := own_form2 ho2.2.1
  obtain ⟨ya1, yn1, rfl⟩ := own_form2 ho2.2.2.1
  have hl2 := below_trans HB1.out hb2 HB1.out.size
  have HL3 := Lib.hid (hl2.alloc hl2.size (.cells #[.slice ya p.cells.length yn, .slice ya0 p.h0.length yn0, .slice ya1 p.h1.length yn1, .int .i64 p.turn, .int .i64 p.quiet] 29))
  have HX3 := Lib.hid ((HX1.out.stays hb2).alloc (.cells #[.slice ya p.cells.length yn, .slice ya0 p.h0.length yn0, .slice ya1 p.h1.length yn1, .int .i64 p.turn, .int .i64 p.quiet] 29))
  have HY3 := Lib.hid ((HY1.out.stays hb2).alloc (.cells #[.slice ya p.cells.length yn, .slice ya0 p.h0.length yn0, .slice ya1 p.h1.length yn1, .int .i64 p.turn, .int .i64 p.quiet] 29))
  have HU3 := Lib.hid ((HU1.out.stays hb2).alloc (.cells #[.slice ya p.cells.length yn, .slice ya0 p.h0.length yn0, .slice ya1 p.h1.length yn1, .int .i64 p.turn, .int .i64 p.quiet] 29))
  have HO3 := Lib.hid (Box.new w2 [.slice ya p.cells.length yn, .slice ya0 p.h0.length yn0, .slice ya1 p.h1.length yn1, .int .i64 p.turn, .int .i64 p.quiet] 29)
  have HF3 : Hid (Fr (fun k => k = w2.heap.size ∨ k = w.heap.size + 1 + 1) w2 (w2.alloc (.cells #[.slice ya p.cells.length yn, .slice ya0 p.h0.length yn0, .slice ya1 p.h1.length yn1, .int .i64 p.turn, .int .i64 p.quiet] 29))) := Lib.hid ((Fr.refl _ _).alloc _)
  clear hb2 ho2 hl2 HX1 HY1 HU1 HB1
  unfold posV
  go_upto_region 5 with (fail)
  obtain ⟨ob, hob⟩ : ∃ ob, ob = w2.heap.size := ⟨_, rfl⟩
  rw [← hob] at HO3 HF3 HH2 hs2 ⊢
  clear hob
  generalize (w2.alloc (.cells #[.slice ya p.cells.length yn, .slice ya0 p.h0.length yn0, .slice ya1 p.h1.length yn1, .int .i64 p.turn, .int .i64 p.quiet] 29)) = w3 at *
  have p0 := HY3.out.cell 0 rfl
  refine wp_region_lit ?_
  refine wpList_load_box (by rfl) 26 (.tmp 2) (by rfl) (w.heap.size) (by rfl) HX3.out Try.underlying26 (by rfl) (by kernel_rfl) ?_
  go_wp2_with fail
  refine (Turned_any R vp vs ve _ p.cells w3 (HP.out.1.below HL3.out (Nat.le_refl _)) HK.out.r HK.out.cl HK.out.len (fun i => by have := HK.out.cell i; have := HK.out.r.np; omega)).mono ?_
  rintro e w4 ⟨vt, rfl, ho4, hb4⟩
  obtain ⟨ta, tn, rfl⟩ := own_form2 ho4
  have hob3 : ob < w3.heap.size := HO3.out.lt
  have HO4 := Lib.hid (HO3.out.stays hb4)
  have HY4 := Lib.hid (HY3.out.stays hb4)
  have HU4 := Lib.hid (HU3.out.stays hb4)
  have HL4 := Lib.hid (below_trans HL3.out hb4 HL3.out.size)
  have HF4 := Lib.hid (HF3.out.trans (Fr.of_new (S := fun k => k = ob ∨ k = w.heap.size + 1 + 1) hb4) (Shr.refl _ _))
  have HT4 := Lib.hid ho4
  have o0 := HO4.out.cell 0 rfl
  have of0 := HO4.out.frozen 0
  clear hb4 ho4 HO3 HY3 HU3 HX3 HL3 HF3 p0
  go_upto_region 6 with (fail)
  have HO5 : Hid (Box (w4.setCell ⟨ob, 0, none⟩ (.slice ta p.cells.length tn)) ob [.slice ta p.cells.length tn, .slice ya0 p.h0.length yn0, .slice ya1 p.h1.length yn1, .int .i64 p.turn, .int .i64 p.quiet] 29) := Lib.hid (HO4.out.set 0 _)
  have HY5 := Lib.hid (HY4.out.far ⟨ob, 0, none⟩ (.slice ta p.cells.length tn) (show w.heap.size + 1 ≠ ob by omega))
  have HU5 := Lib.hid (HU4.out.far ⟨ob, 0, none⟩ (.slice ta p.cells.length tn) (show w.heap.size + 1 + 1 ≠ ob by omega))
  have HL5 := Lib.hid (HL4.out.setCell (p := ⟨ob, 0, none⟩) (show w.heap.size ≤ ob by omega) (.slice ta p.cells.length tn))
  have HF5 := Lib.hid (HF4.out.setCell (p := ⟨ob, 0, none⟩) (.inl rfl) (.slice ta p.cells.length tn))
  have HT5 := Lib.hid (ownsRow_setCell_below HT4.out (a := ⟨ob, 0, none⟩) hob3 (.slice ta p.cells.length tn))
  clear HO4 HY4 HU4 HL4 HF4 HT4 o0 of0
  generalize (w4.setCell ⟨ob, 0, none⟩ (.slice ta p.cells.length tn)) = w5 at *
  have o1 := HO5.out.cell 1 rfl
  have o2 := HO5.out.cell 2 rfl
  have of1 := HO5.out.frozen 1
  have of2 := HO5.out.frozen 2
  go_upto_region 7 with (fail)
  have HO6 : Hid (Box ((w5.setCell ⟨ob, 1, none⟩ (.slice ya1 p.h1.length yn1)).setCell ⟨ob, 2, none⟩ (.slice ya0 p.h0.length yn0)) ob [.slice ta p.cells.length tn, .slice ya1 p.h1.length yn1, .slice ya0 p.h0.length yn0, .int .i64 p.turn, .int .i64 p.quiet] 29) := Lib.hid ((HO5.out.set 1 _).set 2 _)
  have HY6 := Lib.hid ((HY5.out.far ⟨ob, 1, none⟩ (.slice ya1 p.h1.length yn1) (show w.heap.size + 1 ≠ ob by omega)).far ⟨ob, 2, none⟩ (.slice ya0 p.h0.length yn0) (show w.heap.size + 1 ≠ ob by omega))
  have HU6 := Lib.hid ((HU5.out.far ⟨ob, 1, none⟩ (.slice ya1 p.h1.length yn1) (show w.heap.size + 1 + 1 ≠ ob by omega)).far ⟨ob, 2, none⟩ (.slice ya0 p.h0.length yn0) (show w.heap.size + 1 + 1 ≠ ob by omega))
  have HL6 := Lib.hid ((HL5.out.setCell (p := ⟨ob, 1, none⟩) (show w.heap.size ≤ ob by omega) (.slice ya1 p.h1.length yn1)).setCell (p := ⟨ob, 2, none⟩) (show w.heap.size ≤ ob by omega) (.slice ya0 p.h0.length yn0))
  have HF6 := Lib.hid ((HF5.out.setCell (p := ⟨ob, 1, none⟩) (.inl rfl) (.slice ya1 p.h1.length yn1)).setCell (p := ⟨ob, 2, none⟩) (.inl rfl) (.slice ya0 p.h0.length yn0))
  have HT6 := Lib.hid (ownsRow_setCell_below (ownsRow_setCell_below HT5.out (a := ⟨ob, 1, none⟩) hob3 (.slice ya1 p.h1.length yn1)) (a := ⟨ob, 2, none⟩) hob3 (.slice ya0 p.h0.length yn0))
  clear HO5 HY5 HU5 HL5 HF5 HT5 o1 o2 of1 of2
  generalize ((w5.setCell ⟨ob, 1, none⟩ (.slice ya1 p.h1.length yn1)).setCell ⟨ob, 2, none⟩ (.slice ya0 p.h0.length yn0)) = w6 at *
  have p3 := HY6.out.cell 3 rfl
  have o3 := HO6.out.cell 3 rfl
  have of3 := HO6.out.frozen 3
  have hwt : IntKind.i64.wrap (1 - p.turn) = 1 - p.turn := IntWalk.i64_in _ (by have := HK.out.tu; omega)
  obtain ⟨nt, hnt⟩ : ∃ nt, 1 - p.turn = nt := ⟨_, rfl⟩
  rw [hnt] at hwt
  have HNT := Lib.hid hnt
  go_upto_region 8 with (fail)
  have HO7 : Hid (Box (w6.setCell ⟨ob, 3, none⟩ (.int .i64 nt)) ob [.slice ta p.cells.length tn, .slice ya1 p.h1.length yn1, .slice ya0 p.h0.length yn0, .int .i64 nt, .int .i64 p.quiet] 29) := Lib.hid (HO6.out.set 3 _)
  have HU7 := Lib.hid (HU6.out.far ⟨ob, 3, none⟩ (.int .i64 nt) (show w.heap.size + 1 + 1 ≠ ob by omega))
  have HL7 := Lib.hid (HL6.out.setCell (p := ⟨ob, 3, none⟩) (show w.heap.size ≤ ob by omega) (.int .i64 nt))
  have HF7 := Lib.hid (HF6.out.setCell (p := ⟨ob, 3, none⟩) (.inl rfl) (.int .i64 nt))
  have HT7 := Lib.hid (ownsRow_setCell_below HT6.out (a := ⟨ob, 3, none⟩) hob3 (.int .i64 nt))
  clear HO6 HY6 HU6 HL6 HF6 HT6 p3 o3 of3 hnt
  generalize (w6.setCell ⟨ob, 3, none⟩ (.int .i64 nt)) = w7 at *
  refine wp_region_lit ?_
  refine wpList_load_box (by rfl) 29 (.tmp 7) (by rfl) (ob) (by rfl) HO7.out Try.underlying29 (by rfl) (by kernel_rfl) ?_
  go_wp2_with (refine wpList_store_box (vs := [.slice ta p.cells.length tn, .slice ya1 p.h1.length yn1, .slice ya0 p.h0.length yn0, .int .i64 nt, .int .i64 p.quiet]) (by rfl) 29 (.tmp 4) (.tmp 36) (by rfl) (w.heap.size + 1 + 1) (by rfl) (by rfl) HU7.out rfl (by kernel_rfl) (by rfl) ?_)
  have HLf := Lib.hid (below_setCells HL7.out (show w.heap.size ≤ w.heap.size + 1 + 1 by omega) 0 [.slice ta p.cells.length tn, .slice ya1 p.h1.length yn1, .slice ya0 p.h0.length yn0, .int .i64 nt, .int .i64 p.quiet])
  have HRD : Hid (RdP (w7.setCells (w.heap.size + 1 + 1) 0 [.slice ta p.cells.length tn, .slice ya1 p.h1.length yn1, .slice ya0 p.h0.length yn0, .int .i64 nt, .int .i64 p.quiet]) (exZ R p) (.slice ta p.cells.length tn) (.slice ya1 p.h1.length yn1) (.slice ya0 p.h0.length yn0)) := Lib.hid (by
    have hh := HH2.out _ (HF7.out.setCells (b := w.heap.size + 1 + 1) (.inr rfl) 0 [.slice ta p.cells.length tn, .slice ya1 p.h1.length yn1, .slice ya0 p.h0.length yn0, .int .i64 nt, .int .i64 p.quiet])
    refine ⟨?_, hh.2.2, hh.2.1⟩
    have ht := own_setCells HT7.out (show w.heap.size + 1 + 1 < w3.heap.size by omega) 0 [.slice ta p.cells.length tn, .slice ya1 p.h1.length yn1, .slice ya0 p.h0.length yn0, .int .i64 nt, .int .i64 p.quiet]
    rw [← turned_len R p.cells] at ht ⊢
    exact RdI.of_own ht)
  exact bodyPost_ret (results_box rfl (by rfl) (by rfl) (HU7.out.store rfl) Try.underlying29 (by rfl) (by kernel_rfl)) rfl (.inr ⟨HZE.out, ta, ya1, ya0, tn, yn1, yn0, by
    rw [← HNT.out]
    show _ = Ending.returned (.tuple #[.agg #[.slice ta (turnedZ R p.cells).length tn, .slice ya1 p.h1.length yn1, .slice ya0 p.h0.length yn0, .int .i64 (1 - p.turn), .int .i64 p.quiet], .int .i64 0])
    rw [turned_len]; rfl, by
    have h := HRD.out
    show RdP _ (exZ R p) (.slice ta (turnedZ R p.cells).length tn) (.slice ya1 p.h1.length yn1) (.slice ya0 p.h0.length yn0)
    rw [turned_len]; exact h, HLf.out⟩)

def heavyZ (R : RulesZ) (p : PosZ) (d : Int) : Bool := if treeErr R p d = 17 then true else if 2000 < treeZ R p d then true else decide (16 < (p.cells.length : Int))
set_option maxRecDepth 100000 in
set_option maxHeartbeats 4000000 in
theorem heavy_any (HS : SortMvSaid) (R : RulesZ) (vp vs ve : Value) (p : PosZ) (vc v0 v1 : Value) (d : Int) (w : World) (hr : RdR w R vp vs ve) (hnm : R.name.size ≤ maxLen) (hp : RdP w p vc v0 v1) :
    Calls Try.prog 9 #[(.agg #[.string R.name, .int .i64 R.width, .int .i64 R.height, vp, vs, .bool R.falls, .bool R.keeps, ve, .int .i64 R.blocked, .int .i64 R.quiet, .int .i64 R.rept]), (.agg #[vc, v0, v1, .int .i64 p.turn, .int .i64 p.quiet]), .int .i64 d] w fun e w' => e = .returned (.bool (heavyZ R p d)) ∧ Below w.heap.size w w' := by
  have HD : Hid (heavyZ R p d = if treeErr R p d = 17 then true else if 2000 < treeZ R p d then true else decide (16 < (p.cells.length : Int))) := Lib.hid rfl
  have HSh := Lib.hid HS
  have HR := Lib.hid hr
  have HN := Lib.hid hnm
  have HP := Lib.hid hp
  obtain ⟨ac, cc, rfl, hc1, hc2⟩ := hp.1.form
  unfold maxLen at hc2
  clear hr hnm hp HS
  go_enter Try.func9, Try.ntmps9
  go_upto_region 1 with (fail)
  have B0 : Box ((w.alloc (.cells #[.string R.name, .int .i64 R.width, .int .i64 R.height, vp, vs, .bool R.falls, .bool R.keeps, ve, .int .i64 R.blocked, .int .i64 R.quiet, .int .i64 R.rept] 26)).alloc (.cells #[.slice ac p.cells.length cc, v0, v1, .int .i64 p.turn, .int .i64 p.quiet] 29)) (w.heap.size) [.string R.name, .int .i64 R.width, .int .i64 R.height, vp, vs, .bool R.falls, .bool R.keeps, ve, .int .i64 R.blocked, .int .i64 R.quiet, .int .i64 R.rept] 26 := ((Box.new' w (w.heap.size) [.string R.name, .int .i64 R.width, .int .i64 R.height, vp, vs, .bool R.falls, .bool R.keeps, ve, .int .i64 R.blocked, .int .i64 R.quiet, .int .i64 R.rept] 26 (by simp <;> omega)).alloc _)
  have B1 : Box ((w.alloc (.cells #[.string R.name, .int .i64 R.width, .int .i64 R.height, vp, vs, .bool R.falls, .bool R.keeps, ve, .int .i64 R.blocked, .int .i64 R.quiet, .int .i64 R.rept] 26)).alloc (.cells #[.slice ac p.cells.length cc, v0, v1, .int .i64 p.turn, .int .i64 p.quiet] 29)) (w.heap.size + 1) [.slice ac p.cells.length cc, v0, v1, .int .i64 p.turn, .int .i64 p.quiet] 29 := (Box.new' (w.alloc (.cells #[.string R.name, .int .i64 R.width, .int .i64 R.height, vp, vs, .bool R.falls, .bool R.keeps, ve, .int .i64 R.blocked, .int .i64 R.quiet, .int .i64 R.rept] 26)) (w.heap.size + 1) [.slice ac p.cells.length cc, v0, v1, .int .i64 p.turn, .int .i64 p.quiet] 29 (by simp <;> omega))
  have HB : Hid (Below w.heap.size w ((w.alloc (.cells #[.string R.name, .int .i64 R.width, .int .i64 R.height, vp, vs, .bool R.falls, .bool R.keeps, ve, .int .i64 R.blocked, .int .i64 R.quiet, .int .i64 R.rept] 26)).alloc (.cells #[.slice ac p.cells.length cc, v0, v1, .int .i64 p.turn, .int .i64 p.quiet] 29))) := Lib.hid (((Below.refl w.heap.size w).alloc (Nat.le_refl _) _).alloc (by simp <;> omega) _)
  have hz0 : w.heap.size + 1 < ((w.alloc (.cells #[.string R.name, .int .i64 R.width, .int .i64 R.height, vp, vs, .bool R.falls, .bool R.keeps, ve, .int .i64 R.blocked, .int .i64 R.quiet, .int .i64 R.rept] 26)).alloc (.cells #[.slice ac p.cells.length cc, v0, v1, .int .i64 p.turn, .int .i64 p.quiet] 29)).heap.size := by simp
  generalize ((w.alloc (.cells #[.string R.name, .int .i64 R.width, .int .i64 R.height, vp, vs, .bool R.falls, .bool R.keeps, ve, .int .i64 R.blocked, .int .i64 R.quiet, .int .i64 R.rept] 26)).alloc (.cells #[.slice ac p.cells.length cc, v0, v1, .int .i64 p.turn, .int .i64 p.quiet] 29)) = w0 at *
  have HX := Lib.hid B0
  have HY := Lib.hid B1
  clear B0 B1
  refine wp_region_lit ?_
  refine wpList_load_box (by rfl) 26 (.tmp 3) (by rfl) (w.heap.size) (by rfl) HX.out Try.underlying26 (by rfl) (by kernel_rfl) ?_
  refine wpList_load_box (by rfl) 29 (.tmp 4) (by rfl) (w.heap.size + 1) (by rfl) HY.out Try.underlying29 (by rfl) (by kernel_rfl) ?_
  go_wp2_with fail
  refine (Tree_any HSh.out R vp vs ve p _ v0 v1 d w0 (HR.out.below HB.out (Nat.le_refl _)) HN.out (HP.out.below HB.out (Nat.le_refl _))).mono ?_
  rintro e w1 ⟨he1, hb1⟩
  generalize treeErr R p d = te at *
  generalize treeZ R p d = tz at *
  subst he1
  have HB1 := Lib.hid (below_trans HB.out hb1 HB.out.size)
  have HY1 := Lib.hid (HY.out.below hb1 (by omega))
  have p0 := HY1.out.cell 0 rfl
  clear hb1 HX HY HB hz0
  by_cases h1 : te = 17
  · have HE : Hid (heavyZ R p d = true) := Lib.hid (by rw [HD.out, if_pos h1])
    have hb : (te == 17) = true := by simpa using h1
    clear h1 HD
    go_wp2_with fail
    go_ret
    exact ⟨by rw [HE.out]; rfl, HB1.out⟩
  have hb : (te == 17) = false := by simpa using h1
  by_cases h2 : 2000 < tz
  · have HE : Hid (heavyZ R p d = true) := Lib.hid (by rw [HD.out, if_neg h1, if_pos h2])
    have hb2 : decide (2000 < tz) = true := by simpa using h2
    clear h1 h2 HD
    go_wp2_with fail
    go_ret
    exact ⟨by rw [HE.out]; rfl, HB1.out⟩
  · have HE : Hid (heavyZ R p d = decide (16 < (p.cells.length : Int))) := Lib.hid (by rw [HD.out, if_neg h1, if_neg h2])
    have hb2 : decide (2000 < tz) = false := by simpa using h2
    obtain ⟨bb, hbb⟩ : ∃ bb, decide (16 < (p.cells.length : Int)) = bb := ⟨_, rfl⟩
    have HBB := Lib.hid hbb
    clear h1 h2 HD hbb
    go_wp2_with fail
    all_goals
      go_ret
      exact ⟨by rw [HE.out]; first | rfl | (simp; omega), HB1.out⟩

theorem rd2E (w : World) (x y : Int) (t : TypeId) : RdI (w.alloc (.cells #[.int .i64 x, .int .i64 y] t)) (.slice (some ⟨w.heap.size, 0, none⟩) 2 2) [x, y] := by
  refine ⟨rfl, .inr ⟨w.heap.size, 0, 2, rfl, Nat.le_refl _, by unfold maxLen; decide, fun i hi => ?_⟩⟩
  have hi' : i = 0 ∨ i = 1 := by simp at hi; omega
  rcases hi' with rfl | rfl
  all_goals simp [go_sem, ints]
set_option maxRecDepth 100000 in
set_option maxHeartbeats 8000000 in
theorem scored_any (HS : SortMvSaid) (w : World) : Calls Try.prog 8 #[] w fun e w' => e = .returned (.bool true) ∧ Below w.heap.size w w' := by
  have HSh := Lib.hid HS
  clear HS
  go_enter Try.func8, Try.ntmps8
  go_wp2_with fail
  refine (three_any _).mono ?_
  rintro e w0 ⟨vp, vs, ve, rfl, hr0, hb0⟩
  have HR0 := Lib.hid hr0
  have HB0 := Lib.hid hb0
  clear hr0 hb0
  unfold rulesV
  go_wp2_with fail
  refine (near_any _).mono ?_
  rintro e w1 ⟨vc, v0, v1, rfl, hp1, hb1⟩
  have HR1 := Lib.hid (HR0.out.below hb1 (Nat.le_refl _))
  have HP1 := Lib.hid hp1
  have HB1 := Lib.hid (below_trans HB0.out hb1 HB0.out.size)
  clear hb1 hp1 HR0 HB0
  unfold posV
  go_wp2_with fail
  refine (Score_any HSh.out threeZ vp vs ve nearZ vc v0 v1 1 w1 HR1.out (by unfold maxLen; decide) HP1.out).mono ?_
  rintro e w2 ⟨he2, hb2⟩
  rw [near_score, near_tree] at he2
  subst he2
  have HB2 := Lib.hid (below_trans HB1.out hb2 HB1.out.size)
  clear hb2 HR1 HP1 HB1
  go_wp2_with fail
  refine (three_any _).mono ?_
  rintro e w3 ⟨vp, vs, ve, rfl, hr3, hb3⟩
  have HR3 := Lib.hid hr3
  have HB3 := Lib.hid (below_trans HB2.out hb3 HB2.out.size)
  clear hr3 hb3 HB2
  unfold rulesV
  go_wp2_with fail
  refine (near_any _).mono ?_
  rintro e w4 ⟨vc, v0, v1, rfl, hp4, hb4⟩
  have HR4 := Lib.hid (HR3.out.below hb4 (Nat.le_refl _))
  have HP4 := Lib.hid hp4
  have HB4 := Lib.hid (below_trans HB3.out hb4 HB3.out.size)
  clear hb4 hp4 HR3 HB3
  unfold posV
  go_wp2_with fail
  refine (Tree_any HSh.out threeZ vp vs ve nearZ vc v0 v1 1 w4 HR4.out (by unfold maxLen; decide) HP4.out).mono ?_
  rintro e w5 ⟨he5, hb5⟩
  rw [near_treeZ, near_tree] at he5
  subst he5
  have HB5 := Lib.hid (below_trans HB4.out hb5 HB4.out.size)
  clear hb5 HR4 HP4 HB4
  go_wp2_with fail
  have HE6 := Lib.hid (rd2E w5 0 0 30)
  have HB6 := Lib.hid (HB5.out.alloc HB5.out.size (.cells #[.int .i64 0, .int .i64 0] 30))
  generalize (w5.alloc (.cells #[.int .i64 0, .int .i64 0] 30)) = w6 at *
  refine (fine_any _ _ w6 HE6.out).mono ?_
  rintro e w6' ⟨rfl, rfl⟩
  rw [show (![(0 : Int), 0].any (· != 0)) = true by decide]
  go_wp2_with fail
  refine (near_any _).mono ?_
  rintro e w7 ⟨vc, v0, v1, rfl, hp7, hb7⟩
  have HP7 := Lib.hid hp7
  have HB7 := Lib.hid (below_trans HB6.out hb7 HB6.out.size)
  clear hb7 hp7 HB6 HE6
  unfold posV
  go_wp2_with fail
  refine (near_any _).mono ?_
  rintro e w8 ⟨uc, u0, u1, rfl, hp8, hb8⟩
  have HP8 := Lib.hid (HP7.out.below hb8 (Nat.le_refl _))
  have HQ8 := Lib.hid hp8
  have HB8 := Lib.hid (below_trans HB7.out hb8 HB7.out.size)
  clear hb8 hp8 HP7 HB7
  unfold posV
  go_wp2_with fail
  refine (Same_any nearZ nearZ vc v0 v1 uc u0 u1 w8 HP8.out HQ8.out).mono ?_
  rintro e w9 ⟨he9, hb9⟩
  rw [near_same] at he9
  subst he9
  have HB9 := Lib.hid (below_trans HB8.out hb9 HB8.out.size)
  clear hb9
  go_wp2_with fail
  go_ret
  exact ⟨rfl, HB9.out⟩

end Go.Proofs.Ytaacfoeleblfbaa
