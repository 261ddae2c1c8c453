/- AnnotateOrderW, Frame, OpenR, OpenM, OpenP, OpenV, OpenRec. -/
import Derived.Test.YtnieifdogllbfaaGreatD27
import Derived.Test.YtnieifdogllbfaaGreatC06
import Derived.BigQuiet
import Derived.Deep.Cut
import Derived.Deep.CutRange
import Derived.Deep.QuietTactic
import Derived.WalkKit
import Derived.ProofKit
import Derived.OpenShut
import Derived.Carry
import Derived.Deep.Slices
import Derived.Test.YtnieifdogllbfaaGreatC01
import Derived.Deep.Fields
import Derived.Test.YtnieifdogllbfaaGreatC18
namespace Go.Proofs.YtnieifdogllbfaaGreat.annotateOrder
open Go.ChangeShapes Go.WideShapes Go.ChangeAt Go.RowKit
set_option linter.unusedVariables false
set_option maxRecDepth 100000 in
set_option maxHeartbeats 8000000 in
theorem walk (HS : SortMvSaid) (R : RulesZ) (vp vs ve : Value) (X Y : RecZ) (vt vn vt' vn' : Value) (w : World) (hr : RdR w R vp vs ve) (hnm : R.name.size ≤ maxLen) (hx : RdX w X vt vn) (hy : RdX w Y vt' vn') :
  Calls Tryz.prog 4 #[(.agg #[.string R.name, .int .i64 R.width, .int .i64 R.height, vp, vs, .bool R.falls, .bool R.keeps, ve, .int .i64 R.blocked, .int .i64 R.quiet, .int .i64 R.rept]), recV X vt vn, recV Y vt' vn'] w fun e w' => e = .returned (.bool true) ∧ Below w.heap.size w w' := by
 have HSh := Lib.hid HS
 have HR := Lib.hid hr
 have HN := Lib.hid hnm
 obtain ⟨na, nc, rfl, hn1, hn2⟩ := hx.2.1.form
 obtain ⟨ta, tc, rfl, ht1, ht2⟩ := hx.1.form
 obtain ⟨ma, mc, rfl, hm1, hm2⟩ := hy.2.1.form
 obtain ⟨ua, uc, rfl, hu1, hu2⟩ := hy.1.form
 unfold maxLen at hn2 ht2 hm2 hu2
 have HX := Lib.hid hx
 have HY := Lib.hid hy
 clear hx hy HS hr hnm
 unfold recV
 go_enter Tryz.func4, Tryz.ntmps4
 go_upto_region 1 with (fail)
 refine opn3 ?_
 intro w0 xbR xbX xbY hB0 hS0
 have HB := Lib.hid hB0
 obtain ⟨bY, hbY⟩ : ∃ bY, bY = w.heap.size + 1 + 1 := ⟨_, rfl⟩
 rw [← hbY] at xbY ⊢
 obtain ⟨bX, hbX⟩ : ∃ bX, bX = w.heap.size + 1 := ⟨_, rfl⟩
 rw [← hbX] at xbX ⊢
 obtain ⟨bR, hbR⟩ : ∃ bR, bR = w.heap.size := ⟨_, rfl⟩
 rw [← hbR] at xbR ⊢
 have hbR1 : w.heap.size ≤ bR := by omega
 have HbR := Lib.hid xbR
 have hbX1 : w.heap.size ≤ bX := by omega
 have hbRbX : bR < bX := by omega
 have HbX := Lib.hid xbX
 have hbY1 : w.heap.size ≤ bY := by omega
 have hbRbY : bR < bY := by omega
 have hbXbY : bX < bY := by omega
 have HbY := Lib.hid xbY
 have hS : bY < w0.heap.size := by omega
 clear hB0 hS0 xbR hbR xbX hbX xbY hbY
 have HR0 := HbR
 have HX0 := HbX
 have HY0 := HbY
 clear HbR HbX HbY
 go_wp2_with fail
 refine (annotates_any HSh.out w0).mono ?_
 rintro e w1 ⟨rfl, hb1⟩
 have HB1 := Lib.hid (below_trans HB.out hb1 HB.out.size)
 have BRz : Box w1.drew bR [.string R.name, .int .i64 R.width, .int .i64 R.height, vp, vs, .bool R.falls, .bool R.keeps, ve, .int .i64 R.blocked, .int .i64 R.quiet, .int .i64 R.rept] 26 := by have h := HR0.out.stays hb1; exact h
 have BXz : Box w1.drew bX [.slice ta X.tags.length tc, .string X.comment, .slice na X.nodes.length nc, .int .i64 X.result] 30 := by have h := HX0.out.stays hb1; exact h
 have BYz : Box w1.drew bY [.slice ua Y.tags.length uc, .string Y.comment, .slice ma Y.nodes.length mc, .int .i64 Y.result] 30 := by have h := HY0.out.stays hb1; exact h
 have Lz : Below w.heap.size w w1.drew := HB1.out.drew
 clear hb1 HR0 HX0 HY0 HB HB1 hS
 go_upto_region 3 with (fail)
 refine wp_region_noPanic ?_
 refine beginL (S := (fun w' => w'.cell? ⟨bX, 0, none⟩ = some (.slice ta X.tags.length tc) ∧ w'.cell? ⟨bX, 1, none⟩ = some (.string X.comment) ∧ w'.cell? ⟨bX, 2, none⟩ = some (.slice na X.nodes.length nc) ∧ w'.cell? ⟨bX, 3, none⟩ = some (.int .i64 X.result) ∧ w'.cell? ⟨bY, 0, none⟩ = some (.slice ua Y.tags.length uc) ∧ w'.cell? ⟨bY, 1, none⟩ = some (.string Y.comment) ∧ w'.cell? ⟨bY, 2, none⟩ = some (.slice ma Y.nodes.length mc) ∧ w'.cell? ⟨bY, 3, none⟩ = some (.int .i64 Y.result))) (L := [4, 5]) (by kernel_rfl) (by and_intros <;> first | exact BXz.cell _ rfl | exact BYz.cell _ rfl) (fun hHeld => ?_)
 refine tkL 0 ?_
 refine tkL 2 ?_
 refine cnL 1 fun K hK => ?_
 go_simp
 have hc := short_any X (.slice ta X.tags.length tc) (.slice na X.nodes.length nc) w1.drew (HX.out.below Lz (Nat.le_refl _))
 unfold recV at hc
 refine hc.mono ?_
 rintro e wa ⟨hbb, a, n, c, U0, -, rfl, rfl, hU⟩
 have BX1 := BXz.stays hbb
 have BY1 := BYz.stays hbb
 have BR1 := BRz.stays hbb
 have L1 := below_trans Lz hbb Lz.size
 clear hc hbb
 refine hK.out _ _ (by and_intros <;> first | exact BX1.cell _ rfl | exact BY1.cell _ rfl) (fun hHeld => ?_)
 clear hK K
 refine cnL 3 fun K hK => ?_
 go_simp
 have hc := short_any Y (.slice ua Y.tags.length uc) (.slice ma Y.nodes.length mc) wa (HY.out.below L1 (Nat.le_refl _))
 unfold recV at hc
 refine hc.mono ?_
 rintro e wb ⟨hbb, b, n, d, V0, -, rfl, rfl, hV⟩
 have BX3 := BX1.stays hbb
 have BY3 := BY1.stays hbb
 have BR3 := BR1.stays hbb
 have L3 := below_trans L1 hbb L1.size
 clear hc hbb
 refine hK.out _ _ (by and_intros <;> first | exact BX3.cell _ rfl | exact BY3.cell _ rfl) (fun hHeld => ?_)
 clear hK K
 refine ltL 4 fun K hK => ?_
 have d0 := BX3.cell 0 rfl
 have d1 := BX3.cell 1 rfl
 have d2 := BX3.cell 2 rfl
 have d3 := BX3.cell 3 rfl
 have f0 := BX3.frozen 0
 have f1 := BX3.frozen 1
 have f2 := BX3.frozen 2
 have f3 := BX3.frozen 3
 have dl := BX3.lt
 go_simp
 refine K_world ?_
 intro w4 e4
 have hw : w4 = wb.setCells bX 0 [.slice ta X.tags.length tc, .string U0.comment, .slice a U0.nodes.length c, .int .i64 U0.result] := by rw [e4]; rfl
 have BX4 : Box w4 bX [.slice ta X.tags.length tc, .string U0.comment, .slice a U0.nodes.length c, .int .i64 U0.result] 30 := by rw [hw]; exact BX3.store rfl
 have BY4 : Box w4 bY [.slice ua Y.tags.length uc, .string Y.comment, .slice ma Y.nodes.length mc, .int .i64 Y.result] 30 := by rw [hw]; exact BY3.farAll (by omega) 0 _
 have BR4 : Box w4 bR [.string R.name, .int .i64 R.width, .int .i64 R.height, vp, vs, .bool R.falls, .bool R.keeps, ve, .int .i64 R.blocked, .int .i64 R.quiet, .int .i64 R.rept] 26 := by rw [hw]; exact BR3.farAll (by omega) 0 _
 have L4 : Below w.heap.size w w4 := by rw [hw]; exact below_setCells L3 hbX1 0 _
 clear e4 hw d0 d1 d2 d3 f0 f1 f2 f3 dl
 refine hK.out _ _ ?_
 clear hK K
 refine ltL 5 fun K hK => ?_
 have d0 := BY4.cell 0 rfl
 have d1 := BY4.cell 1 rfl
 have d2 := BY4.cell 2 rfl
 have d3 := BY4.cell 3 rfl
 have f0 := BY4.frozen 0
 have f1 := BY4.frozen 1
 have f2 := BY4.frozen 2
 have f3 := BY4.frozen 3
 have dl := BY4.lt
 go_simp
 refine K_world ?_
 intro w5 e5
 have hw : w5 = w4.setCells bY 0 [.slice ua Y.tags.length uc, .string V0.comment, .slice b V0.nodes.length d, .int .i64 V0.result] := by rw [e5]; rfl
 have BY5 : Box w5 bY [.slice ua Y.tags.length uc, .string V0.comment, .slice b V0.nodes.length d, .int .i64 V0.result] 30 := by rw [hw]; exact BY4.store rfl
 have BX5 : Box w5 bX [.slice ta X.tags.length tc, .string U0.comment, .slice a U0.nodes.length c, .int .i64 U0.result] 30 := by rw [hw]; exact BX4.farAll (by omega) 0 _
 have BR5 : Box w5 bR [.string R.name, .int .i64 R.width, .int .i64 R.height, vp, vs, .bool R.falls, .bool R.keeps, ve, .int .i64 R.blocked, .int .i64 R.quiet, .int .i64 R.rept] 26 := by rw [hw]; exact BR4.farAll (by omega) 0 _
 have L5 : Below w.heap.size w w5 := by rw [hw]; exact below_setCells L4 hbY1 0 _
 clear e5 hw d0 d1 d2 d3 f0 f1 f2 f3 dl
 refine hK.out _ _ ?_
 clear hK K
 refine dnN ?_
 have HR5 := Lib.hid BR5
 have HX5 := Lib.hid BX5
 have HY5 := Lib.hid BY5
 have HB5 := Lib.hid L5
 clear BXz BYz BRz Lz BX1 BY1 BR1 L1 BX3 BY3 BR3 L3 BX4 BY4 BR4 L4 BX5 BY5 BR5 L5 hHeld
 have x0 := HX5.out.cell 0 rfl
 have x0f := HX5.out.frozen 0
 have y0 := HY5.out.cell 0 rfl
 have y0f := HY5.out.frozen 0
 have xl := HX5.out.lt
 have yl := HY5.out.lt
 go_upto_region 5 with (fail)
 obtain ⟨U, hUU⟩ : ∃ U, U = { U0 with tags := [] } := ⟨_, rfl⟩
 obtain ⟨V, hVV⟩ : ∃ V, V = { V0 with tags := [] } := ⟨_, rfl⟩
 have HB6 := Lib.hid ((HB5.out.setCell (p := ⟨bX, 0, none⟩) hbX1 (.slice none 0 0)).setCell (p := ⟨bY, 0, none⟩) hbY1 (.slice none 0 0))
 have HX6 : Hid (Box ((w5.setCell ⟨bX, 0, none⟩ (.slice none 0 0)).setCell ⟨bY, 0, none⟩ (.slice none 0 0)) bX [.slice none 0 0, .string U.comment, .slice a U.nodes.length c, .int .i64 U.result] 30) := Lib.hid (by rw [hUU]; exact (HX5.out.set 0 _).far ⟨bY, 0, none⟩ _ (by show bX ≠ bY; omega))
 have HY6 : Hid (Box ((w5.setCell ⟨bX, 0, none⟩ (.slice none 0 0)).setCell ⟨bY, 0, none⟩ (.slice none 0 0)) bY [.slice none 0 0, .string V.comment, .slice b V.nodes.length d, .int .i64 V.result] 30) := Lib.hid (by rw [hVV]; exact (HY5.out.far ⟨bX, 0, none⟩ _ (by show bY ≠ bX; omega)).set 0 _)
 have HR6 := Lib.hid ((HR5.out.far ⟨bX, 0, none⟩ (.slice none 0 0) (by show bR ≠ bX; omega)).far ⟨bY, 0, none⟩ (.slice none 0 0) (by show bR ≠ bY; omega))
 have HU : Hid (RdX w U (.slice none 0 0) (.slice a U.nodes.length c)) := Lib.hid (by have h := hU w HX.out; rw [hUU]; exact ⟨RdL.nil _ _, h.2.1, h.2.2⟩)
 have HV : Hid (RdX w V (.slice none 0 0) (.slice b V.nodes.length d)) := Lib.hid (by have h := hV w HY.out; rw [hVV]; exact ⟨RdL.nil _ _, h.2.1, h.2.2⟩)
 have HVt : Hid (V.tags = []) := Lib.hid (by rw [hVV])
 have HUt : Hid (U.tags = []) := Lib.hid (by rw [hUU])
 generalize ((w5.setCell ⟨bX, 0, none⟩ (.slice none 0 0)).setCell ⟨bY, 0, none⟩ (.slice none 0 0)) = w6 at *
 clear x0 x0f y0 y0f xl yl HX5 HY5 HR5 HB5 hU hV hUU hVV
 have hUz : (0 : Nat) = U.tags.length := by rw [HUt.out]; rfl
 obtain ⟨hu3, hu4⟩ : U.nodes.length ≤ c ∧ c ≤ 9223372036854775807 := by obtain ⟨_, _, e, h1, h2⟩ := HU.out.2.1.form; unfold maxLen at h2; cases e; omega
 obtain ⟨hv3, hv4⟩ : V.nodes.length ≤ d ∧ d ≤ 9223372036854775807 := by obtain ⟨_, _, e, h1, h2⟩ := HV.out.2.1.form; unfold maxLen at h2; cases e; omega
 clear hUz
 have q0 := HR6.out.cell 0 rfl; have q1 := HR6.out.cell 1 rfl; have q2 := HR6.out.cell 2 rfl; have q3 := HR6.out.cell 3 rfl; have q4 := HR6.out.cell 4 rfl; have q5 := HR6.out.cell 5 rfl; have q6 := HR6.out.cell 6 rfl; have q7 := HR6.out.cell 7 rfl; have q8 := HR6.out.cell 8 rfl; have q9 := HR6.out.cell 9 rfl; have q10 := HR6.out.cell 10 rfl
 go_wp2_with fail
 refine (great_anyG R vp vs ve w6 (HR.out.2.1.below HB6.out (Nat.le_refl _))).mono ?_
 rintro e w7 ⟨rfl, hb7⟩
 have HB7 := Lib.hid (below_trans HB6.out hb7 HB6.out.size)
 have HR7 := Lib.hid (HR6.out.stays hb7)
 have HX7 := Lib.hid (HX6.out.stays hb7)
 have HY7 := Lib.hid (HY6.out.stays hb7)
 clear hb7 HR6 HX6 HY6 HB6 q0 q1 q2 q3 q4 q5 q6 q7 q8 q9 q10
 generalize decide (20 < (R.start.length : Int)) = gr at *
 cases gr
 rotate_left
 ·go_wp2_with fail
  go_ret
  exact ⟨rfl, HB7.out⟩
 have q0 := HR7.out.cell 0 rfl; have q1 := HR7.out.cell 1 rfl; have q2 := HR7.out.cell 2 rfl; have q3 := HR7.out.cell 3 rfl; have q4 := HR7.out.cell 4 rfl; have q5 := HR7.out.cell 5 rfl; have q6 := HR7.out.cell 6 rfl; have q7 := HR7.out.cell 7 rfl; have q8 := HR7.out.cell 8 rfl; have q9 := HR7.out.cell 9 rfl; have q10 := HR7.out.cell 10 rfl; have p0 := HX7.out.cell 0 rfl; have p1 := HX7.out.cell 1 rfl; have p2 := HX7.out.cell 2 rfl; have p3 := HX7.out.cell 3 rfl
 have HK := Lib.hid (recCheck_any HSh.out R vp vs ve U (.slice none 0 0) (.slice a U.nodes.length c) w7 (HR.out.below HB7.out (Nat.le_refl _)) HN.out (HU.out.below HB7.out (Nat.le_refl _)))
 unfold recV at HK
 go_wp2_with fail
 refine HK.out.mono ?_
 clear HK
 rintro e w8 ⟨rfl, hb⟩
 have HB8 := Lib.hid (below_trans HB7.out hb HB7.out.size)
 have HR8 := Lib.hid (HR7.out.stays hb)
 have HX8 := Lib.hid (HX7.out.stays hb)
 have HY8 := Lib.hid (HY7.out.stays hb)
 clear hb HR7 HX7 HY7 HB7 q0 q1 q2 q3 q4 q5 q6 q7 q8 q9 q10 p0 p1 p2 p3
 by_cases he : recErr R U = 0
 rotate_left
 ·have heb : (recErr R U != 0) = true := by simpa using he
  clear he
  go_wp2_with fail
  go_ret
  exact ⟨rfl, HB8.out⟩
 have HEU := Lib.hid he
 rw [he]
 clear he
 have q0 := HR8.out.cell 0 rfl; have q1 := HR8.out.cell 1 rfl; have q2 := HR8.out.cell 2 rfl; have q3 := HR8.out.cell 3 rfl; have q4 := HR8.out.cell 4 rfl; have q5 := HR8.out.cell 5 rfl; have q6 := HR8.out.cell 6 rfl; have q7 := HR8.out.cell 7 rfl; have q8 := HR8.out.cell 8 rfl; have q9 := HR8.out.cell 9 rfl; have q10 := HR8.out.cell 10 rfl; have p0 := HY8.out.cell 0 rfl; have p1 := HY8.out.cell 1 rfl; have p2 := HY8.out.cell 2 rfl; have p3 := HY8.out.cell 3 rfl
 have HK := Lib.hid (recCheck_any HSh.out R vp vs ve V (.slice none 0 0) (.slice b V.nodes.length d) w8 (HR.out.below HB8.out (Nat.le_refl _)) HN.out (HV.out.below HB8.out (Nat.le_refl _)))
 unfold recV at HK
 go_wp2_with fail
 refine HK.out.mono ?_
 clear HK
 rintro e w9 ⟨rfl, hb⟩
 have HB9 := Lib.hid (below_trans HB8.out hb HB8.out.size)
 have HR9 := Lib.hid (HR8.out.stays hb)
 have HX9 := Lib.hid (HX8.out.stays hb)
 have HY9 := Lib.hid (HY8.out.stays hb)
 clear hb HR8 HX8 HY8 HB8 q0 q1 q2 q3 q4 q5 q6 q7 q8 q9 q10 p0 p1 p2 p3
 by_cases he : recErr R V = 0
 rotate_left
 ·have heb : (recErr R V != 0) = true := by simpa using he
  clear he
  go_wp2_with fail
  go_ret
  exact ⟨rfl, HB9.out⟩
 have HEV := Lib.hid he
 rw [he]
 clear he
 go_upto_region 7 with (fail)
 refine wp_region_lit ?_
 refine wpList_load_box (by rfl) 26 (.tmp 3) (by rfl) bR (by rfl) HR9.out Tryz.underlying26 (by rfl) (by kernel_rfl) ?_
 refine wpList_load_box (by rfl) 30 (.tmp 4) (by rfl) bX (by rfl) HX9.out Tryz.underlying30 (by rfl) (by kernel_rfl) ?_
 refine wpList_load_box (by rfl) 30 (.tmp 5) (by rfl) bY (by rfl) HY9.out Tryz.underlying30 (by rfl) (by kernel_rfl) ?_
 have HMg := Lib.hid (Merge_any HSh.out R vp vs ve U V (.slice none 0 0) (.slice a U.nodes.length c) (.slice none 0 0) (.slice b V.nodes.length d) w9 (HR.out.below HB9.out (Nat.le_refl _)) HN.out (HU.out.below HB9.out (Nat.le_refl _)) (HV.out.below HB9.out (Nat.le_refl _)) (fun t ht => by rw [HVt.out] at ht; cases ht))
 unfold recV at HMg
 go_wp2_with fail
 refine HMg.out.mono ?_
 clear HMg
 rintro e w10 hres
 obtain ⟨hb, A1, vt1, vn1, E1, rfl, hx1, hE1⟩ := merged_one HEU.out HEV.out hres
 obtain ⟨t1a, t1c, rfl, ht11, ht12⟩ := hx1.1.form
 obtain ⟨n1a, n1c, rfl, hn11, hn12⟩ := hx1.2.1.form
 unfold maxLen at ht12 hn12
 have HE1' := Lib.hid hE1
 have HR10 := Lib.hid (HR9.out.stays hb)
 have HX10 := Lib.hid (HX9.out.stays hb)
 have HY10 := Lib.hid (HY9.out.stays hb)
 have HB10 := Lib.hid (below_trans HB9.out hb HB9.out.size)
 clear hb hres hE1 hx1 HR9 HX9 HY9 HB9
 rw [show recV A1 (.slice t1a A1.tags.length t1c) (.slice n1a A1.nodes.length n1c) = .agg #[.slice t1a A1.tags.length t1c, .string A1.comment, .slice n1a A1.nodes.length n1c, .int .i64 A1.result] from rfl]
 go_upto_region 8 with (fail)
 have hba : Below w10.heap.size w10 (w10.alloc (.cells #[.slice t1a A1.tags.length t1c, .string A1.comment, .slice n1a A1.nodes.length n1c, .int .i64 A1.result] 30)) := (Below.refl _ _).alloc (Nat.le_refl _) _
 have HZ11 := Lib.hid (Box.new w10 [.slice t1a A1.tags.length t1c, .string A1.comment, .slice n1a A1.nodes.length n1c, .int .i64 A1.result] 30)
 obtain ⟨bz1, hbz⟩ : ∃ bz, bz = w10.heap.size := ⟨_, rfl⟩
 rw [← hbz] at HZ11 ⊢
 have HR11 := Lib.hid (HR10.out.stays hba)
 have HX11 := Lib.hid (HX10.out.stays hba)
 have HY11 := Lib.hid (HY10.out.stays hba)
 have HB11 := Lib.hid (below_trans HB10.out hba HB10.out.size)
 generalize (w10.alloc (.cells #[.slice t1a A1.tags.length t1c, .string A1.comment, .slice n1a A1.nodes.length n1c, .int .i64 A1.result] 30)) = w11 at *
 clear hba hbz HR10 HX10 HY10 HB10
 go_upto_region 8 with (fail)
 refine wp_region_lit ?_
 refine wpList_load_box (by rfl) 26 (.tmp 3) (by rfl) bR (by rfl) HR11.out Tryz.underlying26 (by rfl) (by kernel_rfl) ?_
 refine wpList_load_box (by rfl) 30 (.tmp 5) (by rfl) bY (by rfl) HY11.out Tryz.underlying30 (by rfl) (by kernel_rfl) ?_
 refine wpList_load_box (by rfl) 30 (.tmp 4) (by rfl) bX (by rfl) HX11.out Tryz.underlying30 (by rfl) (by kernel_rfl) ?_
 have HMg := Lib.hid (Merge_any HSh.out R vp vs ve V U (.slice none 0 0) (.slice b V.nodes.length d) (.slice none 0 0) (.slice a U.nodes.length c) w11 (HR.out.below HB11.out (Nat.le_refl _)) HN.out (HV.out.below HB11.out (Nat.le_refl _)) (HU.out.below HB11.out (Nat.le_refl _)) (fun t ht => by rw [HUt.out] at ht; cases ht))
 unfold recV at HMg
 go_wp2_with fail
 refine HMg.out.mono ?_
 clear HMg
 rintro e w12 hres
 obtain ⟨hb, A2, vt2, vn2, E2, rfl, hx2, hE2⟩ := merged_one HEV.out HEU.out hres
 obtain ⟨t2a, t2c, rfl, ht21, ht22⟩ := hx2.1.form
 obtain ⟨n2a, n2c, rfl, hn21, hn22⟩ := hx2.2.1.form
 unfold maxLen at ht22 hn22
 have HE2' := Lib.hid hE2
 have HR12 := Lib.hid (HR11.out.stays hb)
 have HX12 := Lib.hid (HX11.out.stays hb)
 have HY12 := Lib.hid (HY11.out.stays hb)
 have HZ12 := Lib.hid (HZ11.out.stays hb)
 have HB12 := Lib.hid (below_trans HB11.out hb HB11.out.size)
 clear hb hres hE2 hx2 HR11 HX11 HY11 HB11 HZ11
 rw [show recV A2 (.slice t2a A2.tags.length t2c) (.slice n2a A2.nodes.length n2c) = .agg #[.slice t2a A2.tags.length t2c, .string A2.comment, .slice n2a A2.nodes.length n2c, .int .i64 A2.result] from rfl]
 go_upto_region 9 with (fail)
 have hba : Below w12.heap.size w12 (w12.alloc (.cells #[.slice t2a A2.tags.length t2c, .string A2.comment, .slice n2a A2.nodes.length n2c, .int .i64 A2.result] 30)) := (Below.refl _ _).alloc (Nat.le_refl _) _
 have HW13 := Lib.hid (Box.new w12 [.slice t2a A2.tags.length t2c, .string A2.comment, .slice n2a A2.nodes.length n2c, .int .i64 A2.result] 30)
 obtain ⟨bz2, hbz⟩ : ∃ bz, bz = w12.heap.size := ⟨_, rfl⟩
 rw [← hbz] at HW13 ⊢
 have HR13 := Lib.hid (HR12.out.stays hba)
 have HX13 := Lib.hid (HX12.out.stays hba)
 have HY13 := Lib.hid (HY12.out.stays hba)
 have HZ13 := Lib.hid (HZ12.out.stays hba)
 have HB13 := Lib.hid (below_trans HB12.out hba HB12.out.size)
 generalize (w12.alloc (.cells #[.slice t2a A2.tags.length t2c, .string A2.comment, .slice n2a A2.nodes.length n2c, .int .i64 A2.result] 30)) = w13 at *
 clear hba hbz HR12 HX12 HY12 HB12 HZ12
 have HMB := Lib.hid (merge_both HEU.out HEV.out)
 have hf : ∀ {e1 e2 : Int}, (e1 = 0 ∨ e1 = 2) → (e2 = 0 ∨ e2 = 2) → ¬ (e1 = 0 ∧ e2 = 0) → True := fun _ _ _ => trivial
 clear hf
 rcases HE1'.out with ⟨rfl, hA1⟩ | rfl
 ·rcases HE2'.out with ⟨rfl, hA2⟩ | rfl
  ·have hl1 : A1.nodes.length = A2.nodes.length := by rw [hA1, hA2]; exact HMB.out.1
   have hl2 : U.nodes.length ≤ A2.nodes.length := by rw [← hl1, hA1]; exact HMB.out.2.1
   have hl3 : V.nodes.length ≤ A2.nodes.length := by rw [← hl1, hA1]; exact HMB.out.2.2
   clear hA1 hA2
   rw [hl1] at HZ13
   clear hl1
   have z2 := HZ13.out.cell 2 rfl
   have zl := HZ13.out.lt
   have v2 := HW13.out.cell 2 rfl
   have vl := HW13.out.lt
   have x2 := HX13.out.cell 2 rfl
   have xl := HX13.out.lt
   have y2 := HY13.out.cell 2 rfl
   have yl := HY13.out.lt
   go_wp2_with fail
   all_goals go_ret
   all_goals exact ⟨rfl, HB13.out⟩
  ·clear HE1' HE2'
   go_wp2_with fail
   go_ret
   exact ⟨rfl, HB13.out⟩
 ·rcases HE2'.out with ⟨rfl, hA2⟩ | rfl
  ·clear HE1' HE2'
   go_wp2_with fail
   go_ret
   exact ⟨rfl, HB13.out⟩
  ·clear HE1' HE2'
   go_wp2_with fail
   go_ret
   exact ⟨rfl, HB13.out⟩
end Go.Proofs.YtnieifdogllbfaaGreat.annotateOrder
namespace Go.Proofs.YtnieifdogllbfaaGreat
open Go.ChangeShapes Go.WideShapes Go.ChangeAt Go.RowKit
section
variable {H : Type} {enc : TypeId × Value → H} {P : Program} {W W' : World}
theorem trodAll_stays (hl : laidOutB P = true) (hb : Below W.heap.size W W') : ∀ {ts : List TypeId} {vs : List Value} {ds : List (DataW H)} {ps : List MemPlace},
  (ts.all fun t => P.readableRec t && decide (t < P.types.size)) = true → DataW.TrodAll enc P W 0 (fun _ => true) true ts vs ds ps →
  DataW.TrodAll enc P W' 0 (fun b => decide (b < W.heap.size)) true ts vs ds ps
 | [], [], [], _, _, h => h
 | t :: ts, v :: vs, d :: ds, ps, ht, ⟨p, q, h1, h2, e⟩ => by
  simp only [List.all_cons, Bool.and_eq_true, decide_eq_true_eq] at ht
  exact ⟨p, q, Below.trod hl ht.1.1 ht.1.2 h1 hb (by obtain ⟨m, hm⟩ := h1; exact DataW.trod_lt m _ _ _ hm), trodAll_stays hl hb ht.2 h2, e⟩
variable {r : Reach} {base : Nat} {t u : TypeId} {v : Value} {w : World}
theorem cell_slice {e : TypeId} (hu : P.underlying u = some (.slice e)) (h : Cell.okWide P w r base u v) : ∃ a len cap, v = .slice a len cap := by
 cases v <;> simp_all [Cell.okWide, Cell.ok]
/-- a struct by value: its cells, each of its own type. -/
theorem okWide_cells {fs : Array Field} {ts : List TypeId} (hs : P.underlying t = some (.struct fs)) (hts : P.cellTypes P.depth t = some ts) (hn : P.cellsOf t = ts.length)
  (h : Value.okWide P w r base t v) : ∃ cs : List Value, v = .agg cs.toArray ∧ cs.length = ts.length ∧ ∀ (i : Nat) (x : Value), cs[i]? = some x → ∃ u, ts[i]? = some u ∧ Cell.okWide P w r base u x := by
 simp only [Value.okWide, hs] at h
 obtain ⟨cs, rfl, hsz, ts', hts', _, hc⟩ := h
 rw [hts] at hts'
 cases hts'
 refine ⟨cs.toList, by simp, by simpa [hn] using hsz, fun i x hi => ?_⟩
 have hi' : cs[i]? = some x := by simpa using hi
 obtain ⟨u, hu, hx⟩ := hc i x hi'
 have hlt : i < ts.length := by
  have := (Array.getElem?_eq_some_iff.1 hi').1
  omega
 rw [Nat.mod_eq_of_lt hlt] at hu
 exact ⟨u, hu, hx⟩
end
end Go.Proofs.YtnieifdogllbfaaGreat
namespace Go.Proofs.YtnieifdogllbfaaGreat
open Go.ChangeShapes Go.WideShapes Go.ChangeAt Go.RowKit Go.Deep
set_option linter.unusedVariables false
set_option maxRecDepth 100000
section
variable {H : Type} {enc : TypeId × Value → H} {P : Program} {w : World}
theorem block_lt' {w : World} {p : Addr} {v : Value} (h : w.cell? p = some v) : p.block < w.heap.size := by
 rcases Nat.lt_or_ge p.block w.heap.size with hlt | hge
 ·exact hlt
 ·simp [World.cell?, Array.getElem?_eq_none hge] at h
theorem add_none' (b off n : Nat) : (⟨b, off, none⟩ : Addr).add n = ⟨b, off + n, none⟩ := by
 unfold Addr.add; split
 ·rename_i h; subst h; rfl
 ·rfl
/-- a slice whose elements are opened by hel. -/
theorem open_list {α : Type} (el : El α) {t e : TypeId} (hu : P.underlying t = some (.slice e)) (hC : P.cellsOf e = el.k) (hk : 0 < el.k)
  (hel : ∀ fuel cs y, DataW.trod enc P w 0 (fun _ => true) true fuel e cs = some y → ∃ x, el.E w x cs)
  {fuel : Nat} {cs : List Value} {y : DataW H × List MemPlace} (h : DataW.trod enc P w 0 (fun _ => true) true fuel t cs = some y) : ∃ v xs, cs = [v] ∧ RdL el w v xs := by
 rcases open_slice hu h with ⟨rfl, _⟩ | ⟨a, len, cap, m, n, D, Pl, rfl, hb, hl, hm, hmm, hx, hi⟩
 ·exact ⟨_, [], rfl, RdL.nil el w⟩
 ·simp only [if_true] at hmm
  obtain rfl : cap = m := hmm.symm
  by_cases h0 : len = 0
  ·subst h0
   exact ⟨_, [], rfl, .inl ⟨_, _, rfl, hm, rfl⟩⟩
  ·have hall : ∀ i : Fin len, ∃ x : α, ∃ cs', w.cells? 0 (a.add (i.1 * el.k)) el.k = some cs' ∧ el.E w x cs' := fun i => by
    obtain ⟨cs', h1, h2⟩ := hi i.1 (by omega)
    rw [hC] at h1
    obtain ⟨x, hx⟩ := hel _ _ _ h2
    exact ⟨x, cs', h1, hx⟩
   have hspot : a.spot = none ∧ a.block < w.heap.size := by
    obtain ⟨x, cs', h1, h2⟩ := hall ⟨0, by omega⟩
    have h3 := (World.cells?_some h1).2.2 0 hk
    have hl' := el.len h2
    rw [List.getElem?_eq_getElem (by omega)] at h3
    have h4 : w.cell? a = some cs'[0] := by simpa [Addr.add] using h3
    exact ⟨World.cell?_spot h4, block_lt' h4⟩
   obtain ⟨g, o, s⟩ := a
   obtain ⟨rfl, hg⟩ := hspot
   simp only at hg
   refine ⟨_, List.ofFn fun i => Classical.choose (hall i), rfl, .inr ⟨g, o, cap, by simp, by simpa using hl, hm, hg, fun i hi' => ?_⟩⟩
   have hi2 : i < len := by simpa using hi'
   obtain ⟨cs', h1, h2⟩ := Classical.choose_spec (hall ⟨i, hi2⟩)
   refine ⟨cs', by simpa using h2, fun j hj => ?_⟩
   have := (World.cells?_some h1).2.2 j hj
   rw [add_none', add_none'] at this
   exact this
theorem trod_flat {base : Nat} {spare : Nat → Bool} {held : Bool} {t : TypeId} {fs : Array Field} {fuel : Nat} {cs : List Value} {x : DataW H × List MemPlace} (ht : P.underlying t = some (.struct fs)) (h1 : oneCellFields P fs = true)
  (h : DataW.trod enc P w base spare held fuel t cs = some x) : ∃ (xs : List (DataW H × List MemPlace)) (n : Nat), cs.length = P.cellsOf t ∧ xs.length = fs.size ∧ ∀ (i : Nat) (f : Field), fs[i]? = some f → DataW.trod enc P w base spare held n f.type ((cs.drop i).take 1) = xs[i]? := by
 obtain ⟨xs, n, _, _, hl, hx, hf⟩ := DataW.trod_struct ht h
 refine ⟨xs, n, hl, hx, fun i f hi => ?_⟩
 obtain ⟨o, q⟩ := hone_of h1 i f hi
 have := hf i f hi
 rw [o, q] at this
 exact this
theorem four_cells {cs : List Value} (h : cs.length = 4) : ∃ a b c d, cs = [a, b, c, d] := by
 match cs, h with
 | [a, b, c, d], _ => exact ⟨a, b, c, d, rfl⟩
theorem three_cells {cs : List Value} (h : cs.length = 3) : ∃ a b c, cs = [a, b, c] := by
 match cs, h with
 | [a, b, c], _ => exact ⟨a, b, c, rfl⟩
theorem open_way (fuel : Nat) (cs : List Value) (y : DataW H × List MemPlace) (h : DataW.trod enc Tryz.prog w 0 (fun _ => true) true fuel 113 cs = some y) : ∃ x, wayEl.E w x cs := by
 obtain ⟨xs, n, hlen, hxl, hf⟩ := trod_flat Tryz.underlying113 (by kernel_rfl) h
 obtain ⟨a, b, c, d, rfl⟩ := four_cells (hlen.trans (by kernel_rfl))
 have hx : xs.length = 4 := hxl
 obtain ⟨y0, y1, y2, y3, rfl⟩ : ∃ a b c d, xs = [a, b, c, d] := by
  match xs, hx with
  | [a, b, c, d], _ => exact ⟨a, b, c, d, rfl⟩
 have f0 := hf 0 _ rfl
 have f1 := hf 1 _ rfl
 have f2 := hf 2 _ rfl
 have f3 := hf 3 _ rfl
 obtain ⟨n0, e0, -, -⟩ := DataW.trod_int Tryz.underlying3 f0
 obtain ⟨n1, e1, -, -⟩ := DataW.trod_int Tryz.underlying3 f1
 obtain ⟨n2, e2, -, -⟩ := DataW.trod_int Tryz.underlying3 f2
 obtain ⟨n3, e3, -, -⟩ := DataW.trod_int Tryz.underlying3 f3
 simp at e0 e1 e2 e3
 subst e0 e1 e2 e3
 exact ⟨⟨n0, n1, n2, n3⟩, rfl⟩
theorem open_piece (fuel : Nat) (cs : List Value) (y : DataW H × List MemPlace) (h : DataW.trod enc Tryz.prog w 0 (fun _ => true) true fuel 84 cs = some y) : ∃ x, pieceEl.E w x cs := by
 obtain ⟨xs, n, hlen, hxl, hf⟩ := trod_flat Tryz.underlying84 (by kernel_rfl) h
 obtain ⟨a, b, c, d, rfl⟩ := four_cells (hlen.trans (by kernel_rfl))
 have hx : xs.length = 4 := hxl
 obtain ⟨y0, y1, y2, y3, rfl⟩ : ∃ a b c d, xs = [a, b, c, d] := by
  match xs, hx with
  | [a, b, c, d], _ => exact ⟨a, b, c, d, rfl⟩
 have f0 := hf 0 _ rfl
 have f1 := hf 1 _ rfl
 have f2 := hf 2 _ rfl
 have f3 := hf 3 _ rfl
 obtain ⟨n0, e0, -, -⟩ := DataW.trod_int Tryz.underlying5 f0
 obtain ⟨n1, e1, -, -⟩ := DataW.trod_int Tryz.underlying3 f1
 obtain ⟨n2, e2, -, -⟩ := DataW.trod_int Tryz.underlying3 f2
 obtain ⟨v, ws, e3, hr⟩ := open_list wayEl Tryz.underlying82 (by kernel_rfl) (by decide) (open_way (enc := enc) (w := w)) f3
 simp at e0 e1 e2 e3
 subst e0 e1 e2 e3
 exact ⟨⟨n0, n1, n2, ws⟩, d, rfl, hr⟩
theorem open_end (fuel : Nat) (cs : List Value) (y : DataW H × List MemPlace) (h : DataW.trod enc Tryz.prog w 0 (fun _ => true) true fuel 86 cs = some y) : ∃ x, endEl.E w x cs := by
 obtain ⟨xs, n, hlen, hxl, hf⟩ := trod_flat Tryz.underlying86 (by kernel_rfl) h
 obtain ⟨a, b, c, d, rfl⟩ := four_cells (hlen.trans (by kernel_rfl))
 have hx : xs.length = 4 := hxl
 obtain ⟨y0, y1, y2, y3, rfl⟩ : ∃ a b c d, xs = [a, b, c, d] := by
  match xs, hx with
  | [a, b, c, d], _ => exact ⟨a, b, c, d, rfl⟩
 have f0 := hf 0 _ rfl
 have f1 := hf 1 _ rfl
 have f2 := hf 2 _ rfl
 have f3 := hf 3 _ rfl
 obtain ⟨n0, e0, -, -⟩ := DataW.trod_int Tryz.underlying3 f0
 obtain ⟨n1, e1, -, -⟩ := DataW.trod_int Tryz.underlying3 f1
 obtain ⟨n2, e2, -, -⟩ := DataW.trod_int Tryz.underlying3 f2
 obtain ⟨n3, e3, -⟩ := DataW.trod_bool Tryz.underlying4 f3
 simp at e0 e1 e2 e3
 subst e0 e1 e2 e3
 exact ⟨⟨n0, n1, n2, n3⟩, rfl⟩
theorem cellOk_spot {r : Reach} {base : Nat} {t e : TypeId} {v : Value} (hu : P.underlying t = some (.slice e)) (hv : Cell.okWide P w r base t v) : (∃ len cap, v = .slice none len cap) ∨ ∃ g o len cap, v = .slice (some ⟨g, o, none⟩) len cap := by
 obtain ⟨a, len, cap, rfl⟩ := cell_slice hu hv
 cases a with
 | none => exact .inl ⟨_, _, rfl⟩
 | some a =>
  obtain ⟨g, o, s⟩ := a
  simp [Cell.okWide, Cell.ok, hu] at hv
  have := hv.2.2.2.1
  subst this
  exact .inr ⟨g, o, _, _, rfl⟩
/-- a slice of integers in a cell. -/
theorem open_ints_cell {r : Reach} {base : Nat} {t e : TypeId} {v : Value} {fuel : Nat} {y : DataW H × List MemPlace} (hu : P.underlying t = some (.slice e)) (he : P.underlying e = some (.int .i64)) (hc : P.cellsOf e = 1)
  (hv : Cell.okWide P w r base t v) (h : DataW.trod enc P w 0 (fun _ => true) true fuel t [v] = some y) : ∃ zs, RdI w v zs := by
 rcases cellOk_spot hu hv with ⟨len, cap, rfl⟩ | ⟨g, o, len, cap, rfl⟩
 ·rcases open_ints hu he hc h with ⟨hcs, _⟩ | ⟨a, len', cap', zs, hcs, _⟩
  ·simp at hcs
   obtain ⟨rfl, rfl⟩ := hcs
   exact ⟨[], Rd.nil _ _⟩
  ·simp at hcs
 ·rcases open_ints hu he hc h with ⟨hcs, _⟩ | ⟨a, len', cap', zs, hcs, _, hl, hm, hz, _, hcell, hwz⟩
  ·simp at hcs
  ·simp at hcs
   obtain ⟨rfl, rfl, rfl⟩ := hcs
   simp only [if_true] at hz
   refine ⟨zs.take len, by simp [ints], .inr ⟨g, o, cap, by simp [hz, hl], by simp [hz, hl], hm, fun i hi => ?_⟩⟩
   have hi' : i < len := by simp at hi; omega
   have := hcell i (by omega)
   rw [add_none'] at this
   rw [this, ints_get _ i (by simp; omega)]
   congr 2
   simp [List.getD, hi']
theorem open_R {r : Reach} {base : Nat} {v : Value} {d : DataW H} {p : List MemPlace} (hv : Value.okWide Tryz.prog w r base 26 v) (h : DataW.Trod enc Tryz.prog w 0 (fun _ => true) true 26 v d p) :
  ∃ (R : RulesZ) (vp vs ve : Value), v = rulesV R vp vs ve ∧ RdR w R vp vs ve ∧ R.name.size ≤ maxLen := by
 obtain ⟨cs, rfl, hl, hcell⟩ := okWide_cells (ts := [9, 3, 3, 22, 23, 4, 4, 24, 3, 3, 3]) Tryz.underlying26 (by kernel_rfl) (by kernel_rfl) hv
 obtain ⟨fuel, hf⟩ := h
 simp only [Value.cells] at hf
 obtain ⟨xs, n, _, hxl, hf⟩ := trod_flat Tryz.underlying26 (by kernel_rfl) hf
 obtain ⟨k0, k1, k2, k3, k4, k5, k6, k7, k8, k9, k10, rfl⟩ : ∃ k0 k1 k2 k3 k4 k5 k6 k7 k8 k9 k10, cs = [k0, k1, k2, k3, k4, k5, k6, k7, k8, k9, k10] := by
  match cs, hl with
  | [k0, k1, k2, k3, k4, k5, k6, k7, k8, k9, k10], _ => exact ⟨k0, k1, k2, k3, k4, k5, k6, k7, k8, k9, k10, rfl⟩
 have hx : xs.length = 11 := hxl
 obtain ⟨y0, y1, y2, y3, y4, y5, y6, y7, y8, y9, y10, rfl⟩ : ∃ k0 k1 k2 k3 k4 k5 k6 k7 k8 k9 k10, xs = [k0, k1, k2, k3, k4, k5, k6, k7, k8, k9, k10] := by
  match xs, hx with
  | [k0, k1, k2, k3, k4, k5, k6, k7, k8, k9, k10], _ => exact ⟨k0, k1, k2, k3, k4, k5, k6, k7, k8, k9, k10, rfl⟩
 have ci : Tryz.prog.cellsOf 3 = 1 := by kernel_rfl
 have f0 := hf 0 _ rfl
 have f1 := hf 1 _ rfl
 have f2 := hf 2 _ rfl
 have f3 := hf 3 _ rfl
 have f4 := hf 4 _ rfl
 have f5 := hf 5 _ rfl
 have f6 := hf 6 _ rfl
 have f7 := hf 7 _ rfl
 have f8 := hf 8 _ rfl
 have f9 := hf 9 _ rfl
 have f10 := hf 10 _ rfl
 obtain ⟨s, e0, -, hs⟩ := DataW.trod_string Tryz.underlying9 f0
 obtain ⟨n1, e1, -, -⟩ := DataW.trod_int Tryz.underlying3 f1
 obtain ⟨n2, e2, -, -⟩ := DataW.trod_int Tryz.underlying3 f2
 obtain ⟨v3, ps, e3, hp⟩ := open_list pieceEl Tryz.underlying22 (by kernel_rfl) (by decide) (open_piece (enc := enc) (w := w)) f3
 obtain ⟨b5, e5, -⟩ := DataW.trod_bool Tryz.underlying4 f5
 obtain ⟨b6, e6, -⟩ := DataW.trod_bool Tryz.underlying4 f6
 obtain ⟨v7, es, e7, he⟩ := open_list endEl Tryz.underlying24 (by kernel_rfl) (by decide) (open_end (enc := enc) (w := w)) f7
 obtain ⟨n8, e8, -, -⟩ := DataW.trod_int Tryz.underlying3 f8
 obtain ⟨n9, e9, -, -⟩ := DataW.trod_int Tryz.underlying3 f9
 obtain ⟨n10, e10, -, -⟩ := DataW.trod_int Tryz.underlying3 f10
 simp at e0 e1 e2 e3 e5 e6 e7 e8 e9 e10
 subst e0 e1 e2 e3 e5 e6 e7 e8 e9 e10
 obtain ⟨u, hu, hc4⟩ := hcell 4 k4 rfl
 simp at hu
 subst hu
 obtain ⟨zs, hz⟩ := open_ints_cell Tryz.underlying23 Tryz.underlying3 ci hc4 (by simpa using f4)
 exact ⟨⟨s, n1, n2, ps, zs, b5, b6, es, n8, n9, n10⟩, k3, k4, k7, rfl, ⟨hp, hz, he⟩, hs⟩
end
end Go.Proofs.YtnieifdogllbfaaGreat
namespace Go.Proofs.YtnieifdogllbfaaGreat
open Go.ChangeShapes Go.WideShapes Go.ChangeAt Go.RowKit Go.Deep
set_option linter.unusedVariables false
section
variable {H : Type} {enc : TypeId × Value → H} {w : World}
set_option maxRecDepth 100000 in
theorem open_move (fuel : Nat) (cs : List Value) (y : DataW H × List MemPlace) (h : DataW.trod enc Tryz.prog w 0 (fun _ => true) true fuel 68 cs = some y) : ∃ x, moveEl.E w x cs := by
 obtain ⟨xs, n, hlen, hxl, hf⟩ := trod_flat Tryz.underlying68 (by kernel_rfl) h
 obtain ⟨a, b, c, rfl⟩ := three_cells (hlen.trans (by kernel_rfl))
 have hx : xs.length = 3 := hxl
 obtain ⟨y0, y1, y2, rfl⟩ : ∃ a b c, xs = [a, b, c] := by
  match xs, hx with
  | [a, b, c], _ => exact ⟨a, b, c, rfl⟩
 have f0 := hf 0 _ rfl
 have f1 := hf 1 _ rfl
 have f2 := hf 2 _ rfl
 obtain ⟨n0, e0, -, -⟩ := DataW.trod_int Tryz.underlying3 f0
 obtain ⟨n1, e1, -, -⟩ := DataW.trod_int Tryz.underlying3 f1
 obtain ⟨n2, e2, -, -⟩ := DataW.trod_int Tryz.underlying3 f2
 simp at e0 e1 e2
 subst e0 e1 e2
 exact ⟨⟨n0, n1, n2⟩, rfl⟩
end
end Go.Proofs.YtnieifdogllbfaaGreat
namespace Go.Proofs.YtnieifdogllbfaaGreat
open Go.ChangeShapes Go.WideShapes Go.ChangeAt Go.RowKit Go.Deep
set_option linter.unusedVariables false
section
variable {H : Type} {enc : TypeId × Value → H} {w : World}
theorem fld {P : Program} {base : Nat} {spare : Nat → Bool} {held : Bool} {fs : Array Field} {n : Nat} {cs : List Value} {xs : List (DataW H × List MemPlace)}
  (hf : ∀ (i : Nat) (f : Field), fs[i]? = some f → DataW.trod enc P w base spare held n f.type ((cs.drop f.offset).take (P.cellsOf f.type)) = xs[i]?) (i o k : Nat) (ti : TypeId)
  (h : (fs[i]?.map fun f => (f.offset, f.type)) = some (o, ti)) (hk : P.cellsOf ti = k) : DataW.trod enc P w base spare held n ti ((cs.drop o).take k) = xs[i]? := by
 simp only [Option.map_eq_some_iff, Prod.mk.injEq] at h
 obtain ⟨f, hi, rfl, rfl⟩ := h
 have := hf i f hi
 rw [hk] at this
 exact this
end
end Go.Proofs.YtnieifdogllbfaaGreat
namespace Go.Proofs.YtnieifdogllbfaaGreat
open Go.ChangeShapes Go.WideShapes Go.ChangeAt Go.RowKit Go.Deep
set_option linter.unusedVariables false
section
variable {H : Type} {enc : TypeId × Value → H} {w : World}
end
end Go.Proofs.YtnieifdogllbfaaGreat
namespace Go.Proofs.YtnieifdogllbfaaGreat
open Go.ChangeShapes Go.WideShapes Go.ChangeAt Go.RowKit Go.Deep
set_option linter.unusedVariables false
set_option maxRecDepth 100000
section
variable {H : Type} {enc : TypeId × Value → H} {w : World}
theorem five_cells {cs : List Value} (h : cs.length = 5) : ∃ a b c d e, cs = [a, b, c, d, e] := by
 match cs, h with
 | [a, b, c, d, e], _ => exact ⟨a, b, c, d, e, rfl⟩
theorem two_cells {cs : List Value} (h : cs.length = 2) : ∃ a b, cs = [a, b] := by
 match cs, h with
 | [a, b], _ => exact ⟨a, b, rfl⟩
theorem open_node (fuel : Nat) (cs : List Value) (y : DataW H × List MemPlace) (h : DataW.trod enc Tryz.prog w 0 (fun _ => true) true fuel 70 cs = some y) : ∃ x, nodeEl.E w x cs := by
 obtain ⟨xs, n, _, _, hlen, hxl, hf⟩ := DataW.trod_struct Tryz.underlying70 h
 obtain ⟨a, b, c, d, e, rfl⟩ := five_cells (hlen.trans (by kernel_rfl))
 have f0 := fld hf 0 0 1 3 (by kernel_rfl) (by kernel_rfl)
 have f1 := fld hf 1 1 3 68 (by kernel_rfl) (by kernel_rfl)
 have f2 := fld hf 2 4 1 9 (by kernel_rfl) (by kernel_rfl)
 have hx : xs.length = 3 := hxl
 obtain ⟨y0, y1, y2, rfl⟩ : ∃ a b c, xs = [a, b, c] := by
  match xs, hx with
  | [a, b, c], _ => exact ⟨a, b, c, rfl⟩
 obtain ⟨n0, e0, -, -⟩ := DataW.trod_int Tryz.underlying3 f0
 obtain ⟨m, hm⟩ := open_move (enc := enc) (w := w) _ _ _ f1
 obtain ⟨s, e2, -, hs⟩ := DataW.trod_string Tryz.underlying9 f2
 simp only [moveEl] at hm
 simp at e0 hm e2
 obtain ⟨rfl, rfl, rfl⟩ := hm
 subst e0 e2
 exact ⟨⟨n0, m, s⟩, rfl, hs⟩
theorem open_tag (fuel : Nat) (cs : List Value) (y : DataW H × List MemPlace) (h : DataW.trod enc Tryz.prog w 0 (fun _ => true) true fuel 64 cs = some y) : ∃ x, tagEl.E w x cs := by
 obtain ⟨xs, n, hlen, hxl, hf⟩ := trod_flat Tryz.underlying64 (by kernel_rfl) h
 obtain ⟨a, b, rfl⟩ := two_cells (hlen.trans (by kernel_rfl))
 have hx : xs.length = 2 := hxl
 obtain ⟨y0, y1, rfl⟩ : ∃ a b, xs = [a, b] := by
  match xs, hx with
  | [a, b], _ => exact ⟨a, b, rfl⟩
 have f0 := hf 0 _ rfl
 have f1 := hf 1 _ rfl
 obtain ⟨s0, e0, -, hs0⟩ := DataW.trod_string Tryz.underlying9 f0
 obtain ⟨s1, e1, -, hs1⟩ := DataW.trod_string Tryz.underlying9 f1
 simp at e0 e1
 subst e0 e1
 exact ⟨⟨s0, s1⟩, rfl, hs0, hs1⟩
theorem open_Rec {r : Reach} {base : Nat} {v : Value} {d : DataW H} {p : List MemPlace} (hv : Value.okWide Tryz.prog w r base 30 v) (h : DataW.Trod enc Tryz.prog w 0 (fun _ => true) true 30 v d p) :
  ∃ (X : RecZ) (vt vn : Value), v = recV X vt vn ∧ RdX w X vt vn := by
 obtain ⟨cs, rfl, hl, hcell⟩ := okWide_cells (ts := [27, 9, 28, 3]) Tryz.underlying30 (by kernel_rfl) (by kernel_rfl) hv
 obtain ⟨fuel, hf⟩ := h
 simp only [Value.cells] at hf
 obtain ⟨xs, n, _, hxl, hf⟩ := trod_flat Tryz.underlying30 (by kernel_rfl) hf
 obtain ⟨a, b, c, d, rfl⟩ := four_cells hl
 have hx : xs.length = 4 := hxl
 obtain ⟨y0, y1, y2, y3, rfl⟩ : ∃ a b c d, xs = [a, b, c, d] := by
  match xs, hx with
  | [a, b, c, d], _ => exact ⟨a, b, c, d, rfl⟩
 have f0 := hf 0 _ rfl
 have f1 := hf 1 _ rfl
 have f2 := hf 2 _ rfl
 have f3 := hf 3 _ rfl
 obtain ⟨v0, ts, e0, h0⟩ := open_list tagEl Tryz.underlying27 (by kernel_rfl) (by decide) (open_tag (enc := enc) (w := w)) f0
 obtain ⟨s1, e1, -, hs1⟩ := DataW.trod_string Tryz.underlying9 f1
 obtain ⟨v2, ns, e2, h2⟩ := open_list nodeEl Tryz.underlying28 (by kernel_rfl) (by decide) (open_node (enc := enc) (w := w)) f2
 obtain ⟨n3, e3, -, -⟩ := DataW.trod_int Tryz.underlying3 f3
 simp at e0 e1 e2 e3
 subst e0 e1 e2 e3
 exact ⟨⟨ts, s1, ns, n3⟩, a, c, rfl, h0, h2, hs1⟩
end
end Go.Proofs.YtnieifdogllbfaaGreat
