/- The walk of the law TopSymmetric. -/
import Derived.Test.YtaacfoeleblfbaaSymB
namespace Go.Proofs.Ytaacfoeleblfbaa.topSymmetric
open Go.ChangeShapes Go.WideShapes Go.ChangeAt Go.RowKit
set_option linter.unusedVariables false

theorem ne_turn : (exZ threeZ nearZ).turn = 1 := rfl
theorem ne_len : (exZ threeZ nearZ).cells.length = 9 := by show (turnedZ threeZ nearZ.cells).length = 9; rw [turned_len]; rfl
set_option maxRecDepth 100000 in
set_option maxHeartbeats 8000000 in
theorem walk (HS : SortMvSaid) (R : RulesZ) (vp vs ve : Value) (p : PosZ) (vc v0 v1 : Value) (d : Int) (w : World) (hr : RdR w R vp vs ve) (hnm : R.name.size ≤ maxLen) (hp : RdP w p vc v0 v1) :
    Calls Try.prog 3 #[(.agg #[.string R.name, .int .i64 R.width, .int .i64 R.height, vp, vs, .bool R.falls, .bool R.keeps, ve, .int .i64 R.blocked, .int .i64 R.quiet, .int .i64 R.rept]), (.agg #[vc, v0, v1, .int .i64 p.turn, .int .i64 p.quiet]), .int .i64 d] w fun e w' => e = .returned (.bool true) ∧ Below w.heap.size w w' := by
  have HSh := Lib.hid HS
  obtain ⟨RF, hRF⟩ : ∃ RF : RulesZ, RF = { R with falls := false } := ⟨_, rfl⟩
  have HR : Hid (RdR w RF vp vs ve) := Lib.hid (by rw [hRF]; exact hr)
  have HN : Hid (RF.name.size ≤ maxLen) := Lib.hid (by rw [hRF]; exact hnm)
  have HFL : Hid (RF.falls = false) := Lib.hid (by rw [hRF])
  have HCE : Hid ([.string R.name, .int .i64 R.width, .int .i64 R.height, vp, vs, .bool false, .bool R.keeps, ve, .int .i64 R.blocked, .int .i64 R.quiet, .int .i64 R.rept] = [.string RF.name, .int .i64 RF.width, .int .i64 RF.height, vp, vs, .bool RF.falls, .bool RF.keeps, ve, .int .i64 RF.blocked, .int .i64 RF.quiet, .int .i64 RF.rept]) := Lib.hid (by rw [hRF])
  have HP := Lib.hid hp
  clear hp HS hr hnm hRF
  go_enter Try.func3, Try.ntmps3
  go_upto_region 1 with (fail)
  have B0 : Box ((w.alloc (.cells #[.string R.name, .int .i64 R.width, .int .i64 R.height, vp, vs, .bool R.falls, .bool R.keeps, ve, .int .i64 R.blocked, .int .i64 R.quiet, .int .i64 R.rept] 26)).alloc (.cells #[vc, v0, v1, .int .i64 p.turn, .int .i64 p.quiet] 29)) (w.heap.size) [.string R.name, .int .i64 R.width, .int .i64 R.height, vp, vs, .bool R.falls, .bool R.keeps, ve, .int .i64 R.blocked, .int .i64 R.quiet, .int .i64 R.rept] 26 := ((Box.new' w (w.heap.size) [.string R.name, .int .i64 R.width, .int .i64 R.height, vp, vs, .bool R.falls, .bool R.keeps, ve, .int .i64 R.blocked, .int .i64 R.quiet, .int .i64 R.rept] 26 (by simp <;> omega)).alloc _)
  have B1 : Box ((w.alloc (.cells #[.string R.name, .int .i64 R.width, .int .i64 R.height, vp, vs, .bool R.falls, .bool R.keeps, ve, .int .i64 R.blocked, .int .i64 R.quiet, .int .i64 R.rept] 26)).alloc (.cells #[vc, v0, v1, .int .i64 p.turn, .int .i64 p.quiet] 29)) (w.heap.size + 1) [vc, v0, v1, .int .i64 p.turn, .int .i64 p.quiet] 29 := (Box.new' (w.alloc (.cells #[.string R.name, .int .i64 R.width, .int .i64 R.height, vp, vs, .bool R.falls, .bool R.keeps, ve, .int .i64 R.blocked, .int .i64 R.quiet, .int .i64 R.rept] 26)) (w.heap.size + 1) [vc, v0, v1, .int .i64 p.turn, .int .i64 p.quiet] 29 (by simp <;> omega))
  have HB : Hid (Below w.heap.size w ((w.alloc (.cells #[.string R.name, .int .i64 R.width, .int .i64 R.height, vp, vs, .bool R.falls, .bool R.keeps, ve, .int .i64 R.blocked, .int .i64 R.quiet, .int .i64 R.rept] 26)).alloc (.cells #[vc, v0, v1, .int .i64 p.turn, .int .i64 p.quiet] 29))) := Lib.hid (((Below.refl w.heap.size w).alloc (Nat.le_refl _) _).alloc (by simp <;> omega) _)
  have hz0 : w.heap.size + 1 < ((w.alloc (.cells #[.string R.name, .int .i64 R.width, .int .i64 R.height, vp, vs, .bool R.falls, .bool R.keeps, ve, .int .i64 R.blocked, .int .i64 R.quiet, .int .i64 R.rept] 26)).alloc (.cells #[vc, v0, v1, .int .i64 p.turn, .int .i64 p.quiet] 29)).heap.size := by simp
  generalize ((w.alloc (.cells #[.string R.name, .int .i64 R.width, .int .i64 R.height, vp, vs, .bool R.falls, .bool R.keeps, ve, .int .i64 R.blocked, .int .i64 R.quiet, .int .i64 R.rept] 26)).alloc (.cells #[vc, v0, v1, .int .i64 p.turn, .int .i64 p.quiet] 29)) = w0 at *
  have HX0 := Lib.hid B0
  have HY0 := Lib.hid B1
  clear B0 B1
  go_wp2_with fail
  refine (three_any _).mono ?_
  rintro e w1 ⟨up, us, ue, rfl, hr1, hb1⟩
  have HU1 := Lib.hid hr1
  have HB1 := Lib.hid (below_trans HB.out hb1 HB.out.size)
  have HX1 := Lib.hid (HX0.out.stays hb1)
  have HY1 := Lib.hid (HY0.out.stays hb1)
  clear hr1 hb1 HX0 HY0 HB hz0
  unfold rulesV
  go_wp2_with fail
  refine (near_any _).mono ?_
  rintro e w2 ⟨uc, u0, u1, rfl, hp2, hb2⟩
  have HU2 := Lib.hid (HU1.out.below hb2 (Nat.le_refl _))
  have HV2 := Lib.hid hp2
  have HB2 := Lib.hid (below_trans HB1.out hb2 HB1.out.size)
  have HX2 := Lib.hid (HX1.out.stays hb2)
  have HY2 := Lib.hid (HY1.out.stays hb2)
  clear hp2 hb2 HX1 HY1 HB1 HU1
  unfold posV
  go_wp2_with fail
  refine (Other_any threeZ up us ue nearZ uc u0 u1 w2 HU2.out (by unfold maxLen; decide) HV2.out).mono ?_
  rintro e w3 (⟨hbad, -⟩ | ⟨-, a0, a1, a2, c0, c1, c2, rfl, hq3, hb3⟩)
  · exact absurd near_ok hbad
  have hl3 := below_trans HB2.out hb3 HB2.out.size
  have HB3 := Lib.hid (hl3.alloc hl3.size (.cells #[.slice a0 (exZ threeZ nearZ).cells.length c0, .slice a1 (exZ threeZ nearZ).h0.length c1, .slice a2 (exZ threeZ nearZ).h1.length c2, .int .i64 (exZ threeZ nearZ).turn, .int .i64 (exZ threeZ nearZ).quiet] 29))
  have HX3 := Lib.hid ((HX2.out.stays hb3).alloc (.cells #[.slice a0 (exZ threeZ nearZ).cells.length c0, .slice a1 (exZ threeZ nearZ).h0.length c1, .slice a2 (exZ threeZ nearZ).h1.length c2, .int .i64 (exZ threeZ nearZ).turn, .int .i64 (exZ threeZ nearZ).quiet] 29))
  have HY3 := Lib.hid ((HY2.out.stays hb3).alloc (.cells #[.slice a0 (exZ threeZ nearZ).cells.length c0, .slice a1 (exZ threeZ nearZ).h0.length c1, .slice a2 (exZ threeZ nearZ).h1.length c2, .int .i64 (exZ threeZ nearZ).turn, .int .i64 (exZ threeZ nearZ).quiet] 29))
  have HO3 := Lib.hid (Box.new w3 [.slice a0 (exZ threeZ nearZ).cells.length c0, .slice a1 (exZ threeZ nearZ).h0.length c1, .slice a2 (exZ threeZ nearZ).h1.length c2, .int .i64 (exZ threeZ nearZ).turn, .int .i64 (exZ threeZ nearZ).quiet] 29)
  clear hq3 hb3 hl3 HX2 HY2 HB2 HU2 HV2
  go_upto_region 2 with (fail)
  generalize (w3.alloc (.cells #[.slice a0 (exZ threeZ nearZ).cells.length c0, .slice a1 (exZ threeZ nearZ).h0.length c1, .slice a2 (exZ threeZ nearZ).h1.length c2, .int .i64 (exZ threeZ nearZ).turn, .int .i64 (exZ threeZ nearZ).quiet] 29)) = w4 at *
  have n0 := HO3.out.cell 0 rfl
  have n3 := HO3.out.cell 3 rfl
  rw [ne_len] at n0
  rw [ne_turn] at n3
  go_wp2_with fail
  refine (scored_any HSh.out w4).mono ?_
  rintro e w5 ⟨rfl, hb5⟩
  have HB5 := Lib.hid (below_trans HB3.out hb5 HB3.out.size)
  have HX5 := Lib.hid (HX3.out.stays hb5)
  have HY5 := Lib.hid (HY3.out.stays hb5)
  clear hb5 HX3 HY3 HB3 HO3 n0 n3
  have x5 := HX5.out.cell 5 rfl
  have xf5 := HX5.out.frozen 5
  go_upto_region 5 with (fail)
  have HX6 : Hid (Box (w5.setCell ⟨w.heap.size, 5, none⟩ (.bool false)) w.heap.size [.string RF.name, .int .i64 RF.width, .int .i64 RF.height, vp, vs, .bool RF.falls, .bool RF.keeps, ve, .int .i64 RF.blocked, .int .i64 RF.quiet, .int .i64 RF.rept] 26) := Lib.hid (by rw [← HCE.out]; exact HX5.out.set 5 (.bool false))
  have HY6 := Lib.hid (HY5.out.far ⟨w.heap.size, 5, none⟩ (.bool false) (show w.heap.size + 1 ≠ w.heap.size by omega))
  have HB6 := Lib.hid (HB5.out.setCell (p := ⟨w.heap.size, 5, none⟩) (Nat.le_refl _) (.bool false))
  clear HX5 HY5 HB5 x5 xf5
  generalize (w5.setCell ⟨w.heap.size, 5, none⟩ (.bool false)) = w6 at *
  refine wp_region_lit ?_
  refine wpList_load_box (by rfl) 26 (.tmp 3) (by rfl) (w.heap.size) (by rfl) HX6.out Try.underlying26 (by rfl) (by kernel_rfl) ?_
  refine wpList_load_box (by rfl) 29 (.tmp 4) (by rfl) (w.heap.size + 1) (by rfl) HY6.out Try.underlying29 (by rfl) (by kernel_rfl) ?_
  go_wp2_with fail
  refine (heavy_any HSh.out RF vp vs ve p vc v0 v1 d w6 (HR.out.below HB6.out (Nat.le_refl _)) HN.out (HP.out.below HB6.out (Nat.le_refl _))).mono ?_
  rintro e w7 ⟨rfl, hb7⟩
  have HB7 := Lib.hid (below_trans HB6.out hb7 HB6.out.size)
  have HX7 := Lib.hid (HX6.out.stays hb7)
  have HY7 := Lib.hid (HY6.out.stays hb7)
  clear hb7 HX6 HY6 HB6
  cases hhv : heavyZ RF p d
  rotate_left
  · go_wp2_with fail
    go_ret
    exact ⟨rfl, HB7.out⟩
  clear hhv
  go_upto_region 7 with (fail)
  refine wp_region_lit ?_
  refine wpList_load_box (by rfl) 26 (.tmp 3) (by rfl) (w.heap.size) (by rfl) HX7.out Try.underlying26 (by rfl) (by kernel_rfl) ?_
  refine wpList_load_box (by rfl) 29 (.tmp 4) (by rfl) (w.heap.size + 1) (by rfl) HY7.out Try.underlying29 (by rfl) (by kernel_rfl) ?_
  go_wp2_with fail
  refine (Other_any RF vp vs ve p vc v0 v1 w7 (HR.out.below HB7.out (Nat.le_refl _)) HN.out (HP.out.below HB7.out (Nat.le_refl _))).mono ?_
  rintro e w8 (⟨hbad, rfl, hb8⟩ | ⟨hok, a0, a1, a2, c0, c1, c2, rfl, hq8, hb8⟩)
  · have HNE := Lib.hid hbad
    have hl8 := below_trans HB7.out hb8 HB7.out.size
    have hn8 := (Below.refl w8.heap.size w8).alloc (Nat.le_refl _) (.cells #[.slice none 0 0, .slice none 0 0, .slice none 0 0, .int .i64 0, .int .i64 0] 29)
    have HB8 := Lib.hid (hl8.alloc hl8.size (.cells #[.slice none 0 0, .slice none 0 0, .slice none 0 0, .int .i64 0, .int .i64 0] 29))
    have HX8 := Lib.hid ((HX7.out.stays hb8).alloc (.cells #[.slice none 0 0, .slice none 0 0, .slice none 0 0, .int .i64 0, .int .i64 0] 29))
    have HY8 := Lib.hid ((HY7.out.stays hb8).alloc (.cells #[.slice none 0 0, .slice none 0 0, .slice none 0 0, .int .i64 0, .int .i64 0] 29))
    have HO8 := Lib.hid (Box.new w8 [.slice none 0 0, .slice none 0 0, .slice none 0 0, .int .i64 0, .int .i64 0] 29)
    have HQ8 : Hid (RdP (w8.alloc (.cells #[.slice none 0 0, .slice none 0 0, .slice none 0 0, .int .i64 0, .int .i64 0] 29)) (⟨[], [], [], 0, 0⟩ : PosZ) (.slice none 0 0) (.slice none 0 0) (.slice none 0 0)) := Lib.hid (⟨(Rd.nil _ 1 : RdI _ (.slice none 0 0) []), (Rd.nil _ 1 : RdI _ (.slice none 0 0) []), (Rd.nil _ 1 : RdI _ (.slice none 0 0) [])⟩)
    clear hb8 hl8 hn8 HX7 HY7 HB7
    go_upto_region 8 with (fail)
    obtain ⟨qb, hqb⟩ : ∃ qb, qb = w8.heap.size := ⟨_, rfl⟩
    rw [← hqb] at HO8 ⊢
    clear hqb
    generalize (w8.alloc (.cells #[.slice none 0 0, .slice none 0 0, .slice none 0 0, .int .i64 0, .int .i64 0] 29)) = w9 at *
    refine wp_region_lit ?_
    refine wpList_load_box (by rfl) 26 (.tmp 3) (by rfl) (w.heap.size) (by rfl) HX8.out Try.underlying26 (by rfl) (by kernel_rfl) ?_
    refine wpList_load_box (by rfl) 29 (.tmp 4) (by rfl) (w.heap.size + 1) (by rfl) HY8.out Try.underlying29 (by rfl) (by kernel_rfl) ?_
    go_wp2_with fail
    refine (Score_any HSh.out RF vp vs ve p vc v0 v1 d w9 (HR.out.below HB8.out (Nat.le_refl _)) HN.out (HP.out.below HB8.out (Nat.le_refl _))).mono ?_
    rintro e wa ⟨hea, hba⟩
    obtain ⟨s1, hs1⟩ : ∃ s1, scoreZ RF p d = s1 := ⟨_, rfl⟩
    obtain ⟨t1, ht1⟩ : ∃ t1, treeErr RF p d = t1 := ⟨_, rfl⟩
    rw [hs1, ht1] at hea
    subst hea
    have HS1 := Lib.hid hs1
    have HT1 := Lib.hid ht1
    have HBa := Lib.hid (below_trans HB8.out hba HB8.out.size)
    have HXa := Lib.hid (HX8.out.stays hba)
    have HOa := Lib.hid (HO8.out.stays hba)
    have HQa := Lib.hid (HQ8.out.below hba (Nat.le_refl _))
    clear hba HX8 HY8 HB8 HO8 HQ8 hs1 ht1
    go_upto_region 9 with (fail)
    refine wp_region_lit ?_
    refine wpList_load_box (by rfl) 26 (.tmp 3) (by rfl) (w.heap.size) (by rfl) HXa.out Try.underlying26 (by rfl) (by kernel_rfl) ?_
    refine wpList_load_box (by rfl) 29 (.tmp 9) (by rfl) (qb) (by rfl) HOa.out Try.underlying29 (by rfl) (by kernel_rfl) ?_
    go_wp2_with fail
    refine (Score_any HSh.out RF vp vs ve (⟨[], [], [], 0, 0⟩ : PosZ) (.slice none 0 0) (.slice none 0 0) (.slice none 0 0) d wa (HR.out.below HBa.out (Nat.le_refl _)) HN.out HQa.out).mono ?_
    rintro e wb ⟨heb, hbb⟩
    obtain ⟨s2, hs2⟩ : ∃ s2, scoreZ RF (⟨[], [], [], 0, 0⟩ : PosZ) d = s2 := ⟨_, rfl⟩
    obtain ⟨t2, ht2⟩ : ∃ t2, treeErr RF (⟨[], [], [], 0, 0⟩ : PosZ) d = t2 := ⟨_, rfl⟩
    rw [hs2, ht2] at heb
    subst heb
    have HBb := Lib.hid (below_trans HBa.out hbb HBa.out.size)
    have hte : t1 = posErr RF p := by rw [← HT1.out]; unfold treeErr; rw [if_pos HNE.out]
    obtain ⟨pe, hpe⟩ : ∃ pe, posErr RF p = pe := ⟨_, rfl⟩
    rw [hpe] at hte hbad ⊢
    subst hte
    have hpb : (t1 != 0) = true := by simpa using hbad
    clear hbb hs2 ht2 hpe hbad
    go_wp2_with fail
    go_ret
    exact ⟨rfl, HBb.out⟩
  · have HOK := Lib.hid hok
    clear hok
    have hl8 := below_trans HB7.out hb8 HB7.out.size
    have hn8 := (Below.refl w8.heap.size w8).alloc (Nat.le_refl _) (.cells #[.slice a0 (exZ RF p).cells.length c0, .slice a1 (exZ RF p).h0.length c1, .slice a2 (exZ RF p).h1.length c2, .int .i64 (exZ RF p).turn, .int .i64 (exZ RF p).quiet] 29)
    have HB8 := Lib.hid (hl8.alloc hl8.size (.cells #[.slice a0 (exZ RF p).cells.length c0, .slice a1 (exZ RF p).h0.length c1, .slice a2 (exZ RF p).h1.length c2, .int .i64 (exZ RF p).turn, .int .i64 (exZ RF p).quiet] 29))
    have HX8 := Lib.hid ((HX7.out.stays hb8).alloc (.cells #[.slice a0 (exZ RF p).cells.length c0, .slice a1 (exZ RF p).h0.length c1, .slice a2 (exZ RF p).h1.length c2, .int .i64 (exZ RF p).turn, .int .i64 (exZ RF p).quiet] 29))
    have HY8 := Lib.hid ((HY7.out.stays hb8).alloc (.cells #[.slice a0 (exZ RF p).cells.length c0, .slice a1 (exZ RF p).h0.length c1, .slice a2 (exZ RF p).h1.length c2, .int .i64 (exZ RF p).turn, .int .i64 (exZ RF p).quiet] 29))
    have HO8 := Lib.hid (Box.new w8 [.slice a0 (exZ RF p).cells.length c0, .slice a1 (exZ RF p).h0.length c1, .slice a2 (exZ RF p).h1.length c2, .int .i64 (exZ RF p).turn, .int .i64 (exZ RF p).quiet] 29)
    have HQ8 : Hid (RdP (w8.alloc (.cells #[.slice a0 (exZ RF p).cells.length c0, .slice a1 (exZ RF p).h0.length c1, .slice a2 (exZ RF p).h1.length c2, .int .i64 (exZ RF p).turn, .int .i64 (exZ RF p).quiet] 29)) (exZ RF p) (.slice a0 (exZ RF p).cells.length c0) (.slice a1 (exZ RF p).h0.length c1) (.slice a2 (exZ RF p).h1.length c2)) := Lib.hid (hq8.below hn8 (Nat.le_refl _))
    clear hq8 hb8 hl8 hn8 HX7 HY7 HB7
    go_upto_region 8 with (fail)
    obtain ⟨qb, hqb⟩ : ∃ qb, qb = w8.heap.size := ⟨_, rfl⟩
    rw [← hqb] at HO8 ⊢
    clear hqb
    generalize (w8.alloc (.cells #[.slice a0 (exZ RF p).cells.length c0, .slice a1 (exZ RF p).h0.length c1, .slice a2 (exZ RF p).h1.length c2, .int .i64 (exZ RF p).turn, .int .i64 (exZ RF p).quiet] 29)) = w9 at *
    refine wp_region_lit ?_
    refine wpList_load_box (by rfl) 26 (.tmp 3) (by rfl) (w.heap.size) (by rfl) HX8.out Try.underlying26 (by rfl) (by kernel_rfl) ?_
    refine wpList_load_box (by rfl) 29 (.tmp 4) (by rfl) (w.heap.size + 1) (by rfl) HY8.out Try.underlying29 (by rfl) (by kernel_rfl) ?_
    go_wp2_with fail
    refine (Score_any HSh.out RF vp vs ve p vc v0 v1 d w9 (HR.out.below HB8.out (Nat.le_refl _)) HN.out (HP.out.below HB8.out (Nat.le_refl _))).mono ?_
    rintro e wa ⟨hea, hba⟩
    obtain ⟨s1, hs1⟩ : ∃ s1, scoreZ RF p d = s1 := ⟨_, rfl⟩
    obtain ⟨t1, ht1⟩ : ∃ t1, treeErr RF p d = t1 := ⟨_, rfl⟩
    rw [hs1, ht1] at hea
    subst hea
    have HS1 := Lib.hid hs1
    have HT1 := Lib.hid ht1
    have HBa := Lib.hid (below_trans HB8.out hba HB8.out.size)
    have HXa := Lib.hid (HX8.out.stays hba)
    have HOa := Lib.hid (HO8.out.stays hba)
    have HQa := Lib.hid (HQ8.out.below hba (Nat.le_refl _))
    clear hba HX8 HY8 HB8 HO8 HQ8 hs1 ht1
    go_upto_region 9 with (fail)
    refine wp_region_lit ?_
    refine wpList_load_box (by rfl) 26 (.tmp 3) (by rfl) (w.heap.size) (by rfl) HXa.out Try.underlying26 (by rfl) (by kernel_rfl) ?_
    refine wpList_load_box (by rfl) 29 (.tmp 9) (by rfl) (qb) (by rfl) HOa.out Try.underlying29 (by rfl) (by kernel_rfl) ?_
    go_wp2_with fail
    refine (Score_any HSh.out RF vp vs ve (exZ RF p) (.slice a0 (exZ RF p).cells.length c0) (.slice a1 (exZ RF p).h0.length c1) (.slice a2 (exZ RF p).h1.length c2) d wa (HR.out.below HBa.out (Nat.le_refl _)) HN.out HQa.out).mono ?_
    rintro e wb ⟨heb, hbb⟩
    obtain ⟨l1, l2⟩ := sym_law (d := d) HFL.out HOK.out
    rw [l1, l2, HS1.out, HT1.out] at heb
    subst heb
    have HBb := Lib.hid (below_trans HBa.out hbb HBa.out.size)
    clear hbb l1 l2
    go_wp2_with fail
    go_ret
    exact ⟨by simp [go_sem], HBb.out⟩

end Go.Proofs.Ytaacfoeleblfbaa.topSymmetric
