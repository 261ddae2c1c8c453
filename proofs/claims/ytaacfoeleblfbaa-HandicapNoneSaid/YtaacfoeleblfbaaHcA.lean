/- The contracts of handicap.Wins, handicaps. -/
import Derived.Test.YtaacfoeleblfbaaSrB
import Derived.Test.YtaacfoeleblfbaaSymA
namespace Go.Proofs.Ytaacfoeleblfbaa
open Go.ChangeShapes Go.WideShapes Go.ChangeAt Go.RowKit
set_option linter.unusedVariables false

def winsErr (R : RulesZ) (d : Int) : Int := if rulesErr R ≠ 0 then rulesErr R else treeErr R (beginZ R) d
def winsZ (R : RulesZ) (d : Int) : Int := if winsErr R d ≠ 0 then 0 else if 0 < scoreZ R (beginZ R) d then 1 else if scoreZ R (beginZ R) d < 0 then 2 else 3
set_option maxRecDepth 100000 in
set_option maxHeartbeats 4000000 in
theorem Wins_any (HS : SortMvSaid) (R : RulesZ) (vp vs ve : Value) (d : Int) (w : World) (hr : RdR w R vp vs ve) (hnm : R.name.size ≤ maxLen) :
    Calls Try.prog 14 #[(.agg #[.string R.name, .int .i64 R.width, .int .i64 R.height, vp, vs, .bool R.falls, .bool R.keeps, ve, .int .i64 R.blocked, .int .i64 R.quiet, .int .i64 R.rept]), .int .i64 d] w fun e w' => e = .returned (.tuple #[.int .i64 (winsZ R d), .int .i64 (winsErr R d)]) ∧ Below w.heap.size w w' := by
  have HQ : Hid (winsErr R d = if rulesErr R ≠ 0 then rulesErr R else treeErr R (beginZ R) d) := Lib.hid rfl
  have HD : Hid (winsZ R d = if winsErr R d ≠ 0 then 0 else if 0 < scoreZ R (beginZ R) d then 1 else if scoreZ R (beginZ R) d < 0 then 2 else 3) := Lib.hid rfl
  have HSh := Lib.hid HS
  have HR := Lib.hid hr
  have HN := Lib.hid hnm
  clear hr hnm HS
  go_enter Try.func14, Try.ntmps14
  go_upto_region 1 with (fail)
  have B0 : Box (w.alloc (.cells #[.string R.name, .int .i64 R.width, .int .i64 R.height, vp, vs, .bool R.falls, .bool R.keeps, ve, .int .i64 R.blocked, .int .i64 R.quiet, .int .i64 R.rept] 26)) (w.heap.size) [.string R.name, .int .i64 R.width, .int .i64 R.height, vp, vs, .bool R.falls, .bool R.keeps, ve, .int .i64 R.blocked, .int .i64 R.quiet, .int .i64 R.rept] 26 := (Box.new' w (w.heap.size) [.string R.name, .int .i64 R.width, .int .i64 R.height, vp, vs, .bool R.falls, .bool R.keeps, ve, .int .i64 R.blocked, .int .i64 R.quiet, .int .i64 R.rept] 26 (by simp <;> omega))
  have HB : Hid (Below w.heap.size w (w.alloc (.cells #[.string R.name, .int .i64 R.width, .int .i64 R.height, vp, vs, .bool R.falls, .bool R.keeps, ve, .int .i64 R.blocked, .int .i64 R.quiet, .int .i64 R.rept] 26))) := Lib.hid ((Below.refl w.heap.size w).alloc (Nat.le_refl _) _)
  have hz0 : w.heap.size < (w.alloc (.cells #[.string R.name, .int .i64 R.width, .int .i64 R.height, vp, vs, .bool R.falls, .bool R.keeps, ve, .int .i64 R.blocked, .int .i64 R.quiet, .int .i64 R.rept] 26)).heap.size := by simp
  generalize (w.alloc (.cells #[.string R.name, .int .i64 R.width, .int .i64 R.height, vp, vs, .bool R.falls, .bool R.keeps, ve, .int .i64 R.blocked, .int .i64 R.quiet, .int .i64 R.rept] 26)) = w0 at *
  have HX := Lib.hid B0
  clear B0
  refine wp_region_lit ?_
  refine wpList_load_box (by rfl) 26 (.tmp 2) (by rfl) (w.heap.size) (by rfl) HX.out Try.underlying26 (by rfl) (by kernel_rfl) ?_
  go_wp2_with fail
  refine (Begin_any R vp vs ve w0 (HR.out.below HB.out (Nat.le_refl _)) HN.out).mono ?_
  rintro e w1 (⟨hbad, rfl, hb1⟩ | ⟨hre, c, c0, c1, rfl, hp1, hb1⟩)
  · have HE : Hid (winsErr R d = rulesErr R) := Lib.hid (by rw [HQ.out, if_pos hbad])
    have HZ : Hid (winsZ R d = 0) := Lib.hid (by rw [HD.out, HE.out, if_pos hbad])
    have he' : (rulesErr R != 0) = true := by simpa using hbad
    have hl := below_trans HB.out hb1 HB.out.size
    have HB1 := Lib.hid hl
    have HB2 := Lib.hid (hl.alloc hl.size (.cells #[.slice none 0 0, .slice none 0 0, .slice none 0 0, .int .i64 0, .int .i64 0] 29))
    clear hbad hb1 hl HQ HD
    unfold zeroPos
    go_wp2_with fail
    go_ret2
    exact ⟨by rw [HE.out, HZ.out]; rfl, HB2.out⟩
  have HE : Hid (winsErr R d = treeErr R (beginZ R) d) := Lib.hid (by rw [HQ.out, if_neg (by simpa using hre)])
  obtain ⟨xa, xn, rfl, -, -⟩ := hp1.1.form
  obtain ⟨xa0, xn0, rfl, -, -⟩ := hp1.2.1.form
  obtain ⟨xa1, xn1, rfl, -, -⟩ := hp1.2.2.form
  have hl := below_trans HB.out hb1 HB.out.size
  have HY0 := Lib.hid ((HX.out.below hb1 (by omega)).alloc (.cells #[.slice xa (beginZ R).cells.length xn, .slice xa0 (beginZ R).h0.length xn0, .slice xa1 (beginZ R).h1.length xn1, .int .i64 (beginZ R).turn, .int .i64 (beginZ R).quiet] 29))
  have HY1 := Lib.hid (Box.new w1 [.slice xa (beginZ R).cells.length xn, .slice xa0 (beginZ R).h0.length xn0, .slice xa1 (beginZ R).h1.length xn1, .int .i64 (beginZ R).turn, .int .i64 (beginZ R).quiet] 29)
  have HL1 := Lib.hid (hl.alloc hl.size (.cells #[.slice xa (beginZ R).cells.length xn, .slice xa0 (beginZ R).h0.length xn0, .slice xa1 (beginZ R).h1.length xn1, .int .i64 (beginZ R).turn, .int .i64 (beginZ R).quiet] 29))
  have HP1 := Lib.hid (hp1.below ((Below.refl _ w1).alloc (Nat.le_refl _) (.cells #[.slice xa (beginZ R).cells.length xn, .slice xa0 (beginZ R).h0.length xn0, .slice xa1 (beginZ R).h1.length xn1, .int .i64 (beginZ R).turn, .int .i64 (beginZ R).quiet] 29)) (Nat.le_refl _))
  clear hl hre hp1 hb1 HQ HX HB hz0
  unfold posV
  go_upto_region 4 with (fail)
  generalize (w1.alloc (.cells #[.slice xa (beginZ R).cells.length xn, .slice xa0 (beginZ R).h0.length xn0, .slice xa1 (beginZ R).h1.length xn1, .int .i64 (beginZ R).turn, .int .i64 (beginZ R).quiet] 29)) = w2 at *
  refine wp_region_lit ?_
  refine wpList_load_box (by rfl) 26 (.tmp 2) (by rfl) (w.heap.size) (by rfl) HY0.out Try.underlying26 (by rfl) (by kernel_rfl) ?_
  refine wpList_load_box (by rfl) 29 (.tmp 6) (by rfl) (w1.heap.size) (by rfl) HY1.out Try.underlying29 (by rfl) (by kernel_rfl) ?_
  go_wp2_with fail
  refine (Score_any HSh.out R vp vs ve (beginZ R) _ _ _ d w2 (HR.out.below HL1.out (Nat.le_refl _)) HN.out HP1.out).mono ?_
  rintro e w3 ⟨he3, hb3⟩
  obtain ⟨te, hte⟩ : ∃ te, treeErr R (beginZ R) d = te := ⟨_, rfl⟩
  obtain ⟨sc, hsc⟩ : ∃ sc, scoreZ R (beginZ R) d = sc := ⟨_, rfl⟩
  rw [hte, hsc] at he3
  subst he3
  rw [hte] at HE
  rw [HE.out, hsc] at HD
  clear hte hsc
  have HB3 := Lib.hid (below_trans HL1.out hb3 HL1.out.size)
  clear hb3
  by_cases h1 : te = 0
  rotate_left
  · have HZ : Hid (winsZ R d = 0) := Lib.hid (by rw [HD.out, if_pos h1])
    have heb : (te != 0) = true := by simpa using h1
    clear h1 HD
    go_wp2_with fail
    go_ret2
    exact ⟨by rw [HE.out, HZ.out]; rfl, HB3.out⟩
  subst h1
  by_cases h2 : 0 < sc
  · have HZ : Hid (winsZ R d = 1) := Lib.hid (by rw [HD.out, if_neg (by simp), if_pos h2])
    have heb : decide (0 < sc) = true := by simpa using h2
    clear h2 HD
    go_wp2_with fail
    go_ret2
    exact ⟨by rw [HE.out, HZ.out]; rfl, HB3.out⟩
  have heb : decide (0 < sc) = false := by simpa using h2
  by_cases h3 : sc < 0
  · have HZ : Hid (winsZ R d = 2) := Lib.hid (by rw [HD.out, if_neg (by simp), if_neg h2, if_pos h3])
    have heb2 : decide (sc < 0) = true := by simpa using h3
    clear h2 h3 HD
    go_wp2_with fail
    go_ret2
    exact ⟨by rw [HE.out, HZ.out]; rfl, HB3.out⟩
  · have HZ : Hid (winsZ R d = 3) := Lib.hid (by rw [HD.out, if_neg (by simp), if_neg h2, if_neg h3])
    have heb2 : decide (sc < 0) = false := by simpa using h3
    clear h2 h3 HD
    go_wp2_with fail
    go_ret2
    exact ⟨by rw [HE.out, HZ.out]; rfl, HB3.out⟩
theorem tic_winsE : winsErr ticZ 0 = 0 := by decide +kernel
theorem tic_ofraw : ofRaw ticZ (beginZ ticZ) = 0 := by decide +kernel
theorem tic_score : scoreZ ticZ (beginZ ticZ) 0 = 0 := by
  unfold scoreZ
  rw [show (0 : Int).toNat = 0 from rfl, of_raw, tic_ofraw]
  split <;> rfl
theorem tic_wins : winsZ ticZ 0 = 3 := by
  unfold winsZ
  rw [tic_score, if_neg (by rw [tic_winsE]; decide), if_neg (by decide), if_neg (by decide)]
set_option maxRecDepth 100000 in
set_option maxHeartbeats 4000000 in
theorem handicaps_any (HS : SortMvSaid) (w : World) : Calls Try.prog 11 #[] w fun e w' => e = .returned (.bool true) ∧ Below w.heap.size w w' := by
  have HSh := Lib.hid HS
  clear HS
  go_enter Try.func11, Try.ntmps11
  go_wp2_with fail
  refine (tic_any _).mono ?_
  rintro e w0 ⟨vp, vs, ve, rfl, hr0, hb0⟩
  have HR0 := Lib.hid hr0
  have HB0 := Lib.hid hb0
  clear hr0 hb0
  unfold rulesV
  go_wp2_with fail
  refine (Wins_any HSh.out ticZ vp vs ve 0 w0 HR0.out (by unfold maxLen; decide)).mono ?_
  rintro e w1 ⟨he1, hb1⟩
  rw [tic_wins, tic_winsE] at he1
  subst he1
  have HB1 := Lib.hid (below_trans HB0.out hb1 HB0.out.size)
  clear hb1
  go_wp2_with fail
  go_ret
  exact ⟨rfl, HB1.out⟩

end Go.Proofs.Ytaacfoeleblfbaa
