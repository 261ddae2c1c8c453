/- bPlayed: a game is played. -/
import Derived.Test.YtkfaibdflbdpgaaUndoA
namespace Go.Proofs.Ytkfaibdflbdpgaa
open Go.ChangeShapes Go.WideShapes Go.ChangeAt Go.RowKit
set_option linter.unusedVariables false

theorem rd3 (w : World) (x y z : Int) (t : TypeId) : RdI (w.alloc (.cells #[.int .i64 x, .int .i64 y, .int .i64 z] t)) (.slice (some ⟨w.heap.size, 0, none⟩) 3 3) [x, y, z] := by
  refine ⟨rfl, .inr ⟨w.heap.size, 0, 3, rfl, Nat.le_refl _, by unfold maxLen; decide, fun i hi => ?_⟩⟩
  have hi' : i = 0 ∨ i = 1 ∨ i = 2 := by simp at hi; omega
  rcases hi' with rfl | rfl | rfl
  all_goals simp [go_sem, ints]
theorem rd_played (w : World) : RdL moveEl (w.alloc (.cells #[.int .i64 (-1), .int .i64 0, .int .i64 0, .int .i64 (-1), .int .i64 3, .int .i64 0, .int .i64 (-1), .int .i64 1, .int .i64 0, .int .i64 (-1), .int .i64 4, .int .i64 0, .int .i64 (-1), .int .i64 2, .int .i64 0] 42)) (.slice (some ⟨w.heap.size, 0, none⟩) 5 5) playedMs := by
  refine .inr ⟨w.heap.size, 0, 5, rfl, by simp [playedMs], by unfold maxLen; decide, by simp, fun i hi => ?_⟩
  have hi' : i < 5 := by simpa [playedMs] using hi
  refine ⟨[.int .i64 playedMs[i].src, .int .i64 playedMs[i].dst, .int .i64 playedMs[i].piece], rfl, fun j hj => ?_⟩
  have hj' : j < 3 := hj
  rcases i with _ | _ | _ | _ | _ | i
  all_goals first | (rcases j with _ | _ | _ | j; all_goals first | (simp [go_sem, playedMs, moveEl]; done) | omega) | omega
set_option maxRecDepth 100000 in
set_option maxHeartbeats 8000000 in
theorem bPlayed_any (HS : SortMvSaid) (w : World) : Calls Try.prog 15 #[] w fun e w' => e = .returned (.bool true) ∧ Below w.heap.size w w' := by
  have HSh := Lib.hid HS
  clear HS
  go_enter Try.func15, Try.ntmps15
  go_wp2_with fail
  refine (three_any _).mono ?_
  rintro e w0 ⟨vp, vs, ve, rfl, hr0, hb0⟩
  have HR0 := Lib.hid hr0
  have HB0 := Lib.hid hb0
  have HW0 := Lib.hid (Below.refl w0.heap.size w0)
  clear hr0 hb0
  unfold rulesV
  go_wp2_with fail
  refine (bPut_any 0 _).mono ?_
  rintro e w1 ⟨rfl, hb1⟩
  have HW1 := Lib.hid hb1
  clear hb1
  go_wp2_with fail
  refine (bPut_any 3 _).mono ?_
  rintro e w2 ⟨rfl, hb2⟩
  have HW2 := Lib.hid (below_trans HW1.out hb2 HW1.out.size)
  clear hb2
  go_wp2_with fail
  refine (bPut_any 1 _).mono ?_
  rintro e w3 ⟨rfl, hb3⟩
  have HW3 := Lib.hid (below_trans HW2.out hb3 HW2.out.size)
  clear hb3
  go_wp2_with fail
  refine (bPut_any 4 _).mono ?_
  rintro e w4 ⟨rfl, hb4⟩
  have HW4 := Lib.hid (below_trans HW3.out hb4 HW3.out.size)
  clear hb4
  go_wp2_with fail
  refine (bPut_any 2 _).mono ?_
  rintro e w5 ⟨rfl, hb5⟩
  have HW5 := Lib.hid (below_trans HW4.out hb5 HW4.out.size)
  clear hb5
  go_wp2_with fail
  have HM := Lib.hid (rd_played w5)
  have HW6 := Lib.hid (HW5.out.alloc HW5.out.size (.cells #[.int .i64 (-1), .int .i64 0, .int .i64 0, .int .i64 (-1), .int .i64 3, .int .i64 0, .int .i64 (-1), .int .i64 1, .int .i64 0, .int .i64 (-1), .int .i64 4, .int .i64 0, .int .i64 (-1), .int .i64 2, .int .i64 0] 42))
  generalize (w5.alloc (.cells #[.int .i64 (-1), .int .i64 0, .int .i64 0, .int .i64 (-1), .int .i64 3, .int .i64 0, .int .i64 (-1), .int .i64 1, .int .i64 0, .int .i64 (-1), .int .i64 4, .int .i64 0, .int .i64 (-1), .int .i64 2, .int .i64 0] 42)) = w6 at *
  refine (PRun_any HSh.out threeZ vp vs ve _ playedMs w6 (HR0.out.below HW6.out (Nat.le_refl _)) (by unfold maxLen; decide) HM.out).mono ?_
  rintro e w7 (⟨hbad, -⟩ | ⟨-, -, -, -, yc, y0, y1, rfl, ho7, hb7⟩)
  · exact absurd played_err hbad
  have HW7 := Lib.hid (below_trans HW6.out hb7 HW6.out.size)
  rw [played_res]
  obtain ⟨ya, yn, rfl⟩ := own_form2 ho7.1
  obtain ⟨ya0, yn0, rfl⟩ := own_form2 ho7.2.1
  obtain ⟨ya1, yn1, rfl⟩ := own_form2 ho7.2.2.1
  clear hb7 ho7 HM
  unfold posV
  go_upto_region 2 with (fail)
  have HX8 := Lib.hid (Box.new w7 [.slice ya (nowZ threeZ playedMs).cells.length yn, .slice ya0 (nowZ threeZ playedMs).h0.length yn0, .slice ya1 (nowZ threeZ playedMs).h1.length yn1, .int .i64 (nowZ threeZ playedMs).turn, .int .i64 (nowZ threeZ playedMs).quiet] 37)
  have HW8 := Lib.hid (HW7.out.alloc HW7.out.size (.cells #[.slice ya (nowZ threeZ playedMs).cells.length yn, .slice ya0 (nowZ threeZ playedMs).h0.length yn0, .slice ya1 (nowZ threeZ playedMs).h1.length yn1, .int .i64 (nowZ threeZ playedMs).turn, .int .i64 (nowZ threeZ playedMs).quiet] 37))
  have hx8 : w7.heap.size < (w7.alloc (.cells #[.slice ya (nowZ threeZ playedMs).cells.length yn, .slice ya0 (nowZ threeZ playedMs).h0.length yn0, .slice ya1 (nowZ threeZ playedMs).h1.length yn1, .int .i64 (nowZ threeZ playedMs).turn, .int .i64 (nowZ threeZ playedMs).quiet] 37)).heap.size := by simp
  generalize (w7.alloc (.cells #[.slice ya (nowZ threeZ playedMs).cells.length yn, .slice ya0 (nowZ threeZ playedMs).h0.length yn0, .slice ya1 (nowZ threeZ playedMs).h1.length yn1, .int .i64 (nowZ threeZ playedMs).turn, .int .i64 (nowZ threeZ playedMs).quiet] 37)) = w8 at *
  go_wp2_with fail
  refine (three_any _).mono ?_
  rintro e w9 ⟨vp', vs', ve', rfl, hr9, hb9⟩
  have HR9 := Lib.hid hr9
  have HW9 := Lib.hid (below_trans HW8.out hb9 HW8.out.size)
  have HX9 := Lib.hid (HX8.out.stays hb9)
  clear hr9 hb9
  unfold rulesV
  go_wp2_with fail
  refine (near_any _).mono ?_
  rintro e w10 ⟨nc, n0, n1, rfl, hn10, hb10⟩
  have HR10 := Lib.hid (HR9.out.below hb10 (Nat.le_refl _))
  have HW10 := Lib.hid (below_trans HW9.out hb10 HW9.out.size)
  have HX10 := Lib.hid (HX9.out.stays hb10)
  have HN10 := Lib.hid hn10
  obtain ⟨na, nn, rfl, -, -⟩ := hn10.1.form
  obtain ⟨na0, nn0, rfl, -, -⟩ := hn10.2.1.form
  obtain ⟨na1, nn1, rfl, -, -⟩ := hn10.2.2.form
  clear hn10 hb10
  unfold posV
  go_wp2_with fail
  refine (All_any HSh.out threeZ vp' vs' ve' nearZ _ _ _ w10 HR10.out (by unfold maxLen; decide) HN10.out).mono ?_
  rintro e w11 ⟨vl, rfl, ho11, hb11⟩
  rw [near_ok]
  obtain ⟨al, cl, rfl⟩ := own_form2 ho11
  rw [near_len]
  have HW11 := Lib.hid (below_trans HW10.out hb11 HW10.out.size)
  have HX11 := Lib.hid (HX10.out.stays hb11)
  clear ho11 hb11
  go_wp2_with fail
  refine (three_any _).mono ?_
  rintro e w12 ⟨vp2, vs2, ve2, rfl, hr12, hb12⟩
  have HR12 := Lib.hid hr12
  have HW12 := Lib.hid (below_trans HW11.out hb12 HW11.out.size)
  have HX12 := Lib.hid (HX11.out.stays hb12)
  clear hr12 hb12
  unfold rulesV
  go_wp2_with fail
  refine (Begin_any threeZ vp2 vs2 ve2 w12 HR12.out (by unfold maxLen; decide)).mono ?_
  rintro e w13 (⟨hbad, -⟩ | ⟨-, qc, q0, q1, rfl, hq13, hb13⟩)
  · exact absurd three_rules hbad
  have HW13 := Lib.hid (below_trans HW12.out hb13 HW12.out.size)
  have HX13 := Lib.hid (HX12.out.stays hb13)
  have HQ13 := Lib.hid hq13
  obtain ⟨qa, qn, rfl, -, -⟩ := hq13.1.form
  obtain ⟨qa0, qn0, rfl, -, -⟩ := hq13.2.1.form
  obtain ⟨qa1, qn1, rfl, -, -⟩ := hq13.2.2.form
  clear hq13 hb13
  unfold posV
  go_upto_region 4 with (fail)
  have HX14 := Lib.hid (HX13.out.alloc (.cells #[.slice qa (beginZ threeZ).cells.length qn, .slice qa0 (beginZ threeZ).h0.length qn0, .slice qa1 (beginZ threeZ).h1.length qn1, .int .i64 (beginZ threeZ).turn, .int .i64 (beginZ threeZ).quiet] 37))
  have HY14 := Lib.hid (Box.new w13 [.slice qa (beginZ threeZ).cells.length qn, .slice qa0 (beginZ threeZ).h0.length qn0, .slice qa1 (beginZ threeZ).h1.length qn1, .int .i64 (beginZ threeZ).turn, .int .i64 (beginZ threeZ).quiet] 37)
  have HW14 := Lib.hid (HW13.out.alloc HW13.out.size (.cells #[.slice qa (beginZ threeZ).cells.length qn, .slice qa0 (beginZ threeZ).h0.length qn0, .slice qa1 (beginZ threeZ).h1.length qn1, .int .i64 (beginZ threeZ).turn, .int .i64 (beginZ threeZ).quiet] 37))
  have HQ14 := Lib.hid (HQ13.out.below ((Below.refl w13.heap.size w13).alloc (Nat.le_refl _) (.cells #[.slice qa (beginZ threeZ).cells.length qn, .slice qa0 (beginZ threeZ).h0.length qn0, .slice qa1 (beginZ threeZ).h1.length qn1, .int .i64 (beginZ threeZ).turn, .int .i64 (beginZ threeZ).quiet] 37)) (Nat.le_refl _))
  have hx14 : w13.heap.size < (w13.alloc (.cells #[.slice qa (beginZ threeZ).cells.length qn, .slice qa0 (beginZ threeZ).h0.length qn0, .slice qa1 (beginZ threeZ).h1.length qn1, .int .i64 (beginZ threeZ).turn, .int .i64 (beginZ threeZ).quiet] 37)).heap.size := by simp
  generalize (w13.alloc (.cells #[.slice qa (beginZ threeZ).cells.length qn, .slice qa0 (beginZ threeZ).h0.length qn0, .slice qa1 (beginZ threeZ).h1.length qn1, .int .i64 (beginZ threeZ).turn, .int .i64 (beginZ threeZ).quiet] 37)) = w14 at *
  go_wp2_with fail
  refine (fine_any _ [0, 0, 0] _ (rd3 _ 0 0 0 _)).mono ?_
  rintro e w15 ⟨rfl, rfl⟩
  have hf : (!([0, 0, 0] : List Int).any (· != 0)) = true := rfl
  rw [hf]
  clear hf
  have hal := ((Below.refl w14.heap.size w14).alloc (Nat.le_refl _) (.cells #[.int .i64 0, .int .i64 0, .int .i64 0] 29))
  have HX15 := Lib.hid (HX14.out.stays hal)
  have HY15 := Lib.hid (HY14.out.stays hal)
  have HW15 := Lib.hid (below_trans HW14.out hal HW14.out.size)
  have hq15 := HQ14.out.below hal (Nat.le_refl _)
  clear hal HX14 HY14 HW14 HQ14
  generalize (w14.alloc (.cells #[.int .i64 0, .int .i64 0, .int .i64 0] 29)) = w15 at *
  have x0 := HX15.out.cell 0 rfl
  have y0 := HY15.out.cell 0 rfl
  have y1 := HY15.out.cell 1 rfl
  have y2 := HY15.out.cell 2 rfl
  have y3 := HY15.out.cell 3 rfl
  have y4 := HY15.out.cell 4 rfl
  rw [played_len] at x0
  rw [three_len] at y0 hq15
  have HQ15 := Lib.hid hq15
  clear hq15 HX15 HY15
  go_wp2_with fail
  refine (Same_any (beginZ threeZ) (beginZ threeZ) _ _ _ _ _ _ w15 HQ15.out HQ15.out).mono ?_
  rintro e w16 ⟨rfl, hb16⟩
  have HW16 := Lib.hid (below_trans HW15.out hb16 HW15.out.size)
  rw [three_same]
  clear hb16 x0 y0 y1 y2 y3 y4
  go_wp2_with fail
  go_ret
  exact ⟨rfl, below_trans HB0.out HW16.out HB0.out.size⟩

end Go.Proofs.Ytkfaibdflbdpgaa
