/-
  THE SHELL OF A PROOF OF 'Rows.RatingTurnsSaid' ('gamehall/gamehallkeep3.RatingTurns'), WRITTEN BY PROGRAM (proof-skeleton.mjs) off the guide's own print for that function. Not trusted: Lean checks it.
  YOURS ARE THE HOLES MARKED 'HOLE' (each bears 'sorry'). ALL ELSE IS THE GUIDE's TEMPLATE (howto/template/XProofs.lean) at this function's number and types: leave it.
-/
import Derived.Test.YtgbedogdikflcaaRows
import Derived.WalkKit
import Derived.ProofKit
import Derived.OpenShut
import Derived.Test.YtgbedogdikflcaaChange
import Derived.ShutString
namespace Go.Proofs.Ytgbedogdikflcaa.ratingTurns
open Go.ChangeShapes Go.WideShapes Go.ChangeAt Go.RowKit
open Go.ChangeMaps (open_string shut_string)
set_option linter.unusedVariables false      -- a walk need not use every 'w<i>' (that an integer argument fits its kind)

theorem own : ownKnob Try.prog.godebug = none := by kernel_rfl

theorem bounds {n : Int} (h : (Lit.int .i64 n).wf = true) : -9223372036854775808 ≤ n ∧ n ≤ 9223372036854775807 := by
  simpa [Lit.wf, IntKind.min, IntKind.max, IntKind.signed, IntKind.bits] using h

theorem changeR_err {a b p f : Int} (h : (changeR a b p f).2 ≠ 0) : (changeR a b p f).1 = 0 := by
  unfold changeR at *; split <;> (try split) <;> (try split) <;> simp_all

theorem changeR_ok {a b p f : Int} (h : (changeR a b p f).2 = 0) : (0 ≤ p ∧ p ≤ 2) ∧ changeR a b p f = (f * (50 * p - expect (a - b)), 0) ∧ changeR b a (2 - p) f = (- (f * (50 * p - expect (a - b))), 0) ∧ (-12800 ≤ f * (50 * p - expect (a - b)) ∧ f * (50 * p - expect (a - b)) ≤ 12800) := by
  unfold changeR at h ⊢
  by_cases h1 : outB a = true ∨ outB b = true
  · rw [if_pos h1] at h; simp at h
  · rw [if_neg h1] at h
    by_cases h2 : p < 0 ∨ 2 < p
    · rw [if_pos h2] at h; simp at h
    · rw [if_neg h2] at h
      by_cases h3 : f < 1 ∨ 64 < f
      · rw [if_pos h3] at h; simp at h
      · refine ⟨by omega, ?_, ?_, ?_⟩
        · rw [if_neg h1, if_neg h2, if_neg h3]
        · rw [if_neg (fun q => h1 q.symm), if_neg (by omega), if_neg h3]
          have e := expect_neg (a - b)
          have e2 : -(a - b) = b - a := by omega
          rw [e2] at e
          have e3 : 50 * (2 - p) - expect (b - a) = - (50 * p - expect (a - b)) := by omega
          rw [e3, Int.mul_neg]
        · have he := expect_b (a - b)
          exact ⟨Int.le_trans (by omega) (Int.mul_le_mul_of_nonneg_left (by omega : -200 ≤ 50 * p - expect (a - b)) (by omega)), Int.le_trans (Int.mul_le_mul_of_nonneg_left (by omega : 50 * p - expect (a - b) ≤ 200) (by omega)) (by omega)⟩

/-! ### STEP 1: THE WALK: the Go text returns true. 'Grown w w'': the world has at most new blocks (Derived/RowKit3.lean). Part the cases AHEAD of 'go_enter' where a test parts the walk; take each callee by a contract of your own. -/
theorem walk (a0 : Int) (a1 : Int) (a2 : Int) (a3 : Int) (a4 : Int) (w0 : (Lit.int .i64 a0).wf = true) (w1 : (Lit.int .i64 a1).wf = true) (w2 : (Lit.int .i64 a2).wf = true) (w3 : (Lit.int .i64 a3).wf = true) (w4 : (Lit.int .i64 a4).wf = true) (w : World) :
    Calls Try.prog 3 #[.int .i64 a0, .int .i64 a1, .int .i64 a2, .int .i64 a3, .int .i64 a4] w fun e w' => e = .returned (.bool true) ∧ Grown w w' := by
  have ha0 := bounds w0
  have ha1 := bounds w1
  have ha4 := bounds w4
  clear w0 w1 w2 w3 w4
  by_cases hE : (changeR a0 a1 a2 a3).2 = 0
  · obtain ⟨hp, hx, hy, hr⟩ := changeR_ok hE
    obtain ⟨hp1, hp2⟩ := hp
    clear hE
    have C1 := fun w => Change_any a0 a1 a2 a3 w
    rw [hx] at C1
    have C2 : ∀ q : Int, q = 2 - a2 → ∀ w, Calls Try.prog 7 #[.int .i64 a1, .int .i64 a0, .int .i64 q, .int .i64 a3] w fun e w' => e = .returned (.tuple #[.int .i64 (-(a3 * (50 * a2 - expect (a0 - a1)))), .int .i64 0]) ∧ w = w' := by
      intro q hq w; subst hq; have := Change_any a1 a0 (2 - a2) a3 w; rw [hy] at this; exact this
    have C1' := Lib.hid C1
    have C2' := Lib.hid C2
    clear hx hy C1 C2
    generalize a3 * (50 * a2 - expect (a0 - a1)) = x at *
    have key : ∀ d : Int, -1099511627776 ≤ d → d ≤ 1099511627776 → a4 = d ∨ (d = 0 ∧ (a4 < -1099511627776 ∨ 1099511627776 < a4)) → Calls Try.prog 3 #[.int .i64 a0, .int .i64 a1, .int .i64 a2, .int .i64 a3, .int .i64 a4] w fun e w' => e = .returned (.bool true) ∧ Grown w w' := by
      intro d hd1 hd2 hd
      have e1 : (expect d + expect (-d) == 100) = true := by rw [expect_neg]; rfl
      have e2 : expect d ≤ expect (d + 100) := expect_mono _ _ (by omega)
      have e3 := expect_b d
      have e4 := expect_b (-d)
      have e5 := expect_b (d + 100)
      rcases hd with hd | ⟨hd, hd3⟩
      · subst hd
        go_enter Try.func3, Try.ntmps3
        go_wp2_with fail
        refine (rates_any _).mono ?_
        rintro e w' ⟨rfl, rfl⟩
        go_wp2_with fail
        refine (C1'.out _).mono ?_
        rintro e w' ⟨rfl, rfl⟩
        go_wp2_with fail
        all_goals
          refine (C2'.out _ (by omega) _).mono ?_
          rintro e w' ⟨rfl, rfl⟩
          go_wp2_with (go_at_call 8; refine (expect_any _ _ (by omega) (by omega)).mono ?_; rintro e w' ⟨rfl, rfl⟩)
          go_ret
          exact ⟨rfl, Grown.refl _⟩
      · subst hd
        rcases hd3 with hd3 | hd3
        all_goals
          go_enter Try.func3, Try.ntmps3
          go_wp2_with fail
          refine (rates_any _).mono ?_
          rintro e w' ⟨rfl, rfl⟩
          go_wp2_with fail
          refine (C1'.out _).mono ?_
          rintro e w' ⟨rfl, rfl⟩
          go_wp2_with fail
          all_goals
            refine (C2'.out _ (by omega) _).mono ?_
            rintro e w' ⟨rfl, rfl⟩
            go_wp2_with (go_at_call 8; refine (expect_any _ _ (by omega) (by omega)).mono ?_; rintro e w' ⟨rfl, rfl⟩)
            go_ret
            exact ⟨rfl, Grown.refl _⟩
    by_cases h1 : a4 < -1099511627776
    · exact key 0 (by omega) (by omega) (Or.inr ⟨rfl, Or.inl h1⟩)
    · by_cases h2 : 1099511627776 < a4
      · exact key 0 (by omega) (by omega) (Or.inr ⟨rfl, Or.inr h2⟩)
      · exact key a4 (by omega) (by omega) (Or.inl rfl)
  · have hx := changeR_err hE
    have C1 := fun w => Change_any a0 a1 a2 a3 w
    rw [hx] at C1
    have C1' := Lib.hid C1
    have hc : ((changeR a0 a1 a2 a3).2 != 0) = true := by simpa using hE
    clear hx C1 hE
    generalize (changeR a0 a1 a2 a3).2 = c at *
    go_enter Try.func3, Try.ntmps3
    go_wp2_with fail
    refine (rates_any _).mono ?_
    rintro e w' ⟨rfl, rfl⟩
    go_wp2_with fail
    refine (C1'.out _).mono ?_
    rintro e w' ⟨rfl, rfl⟩
    go_wp2_with fail
    all_goals
      refine (Change_any _ _ _ _ _).mono ?_
      rintro e w' ⟨rfl, rfl⟩
      go_wp2_with fail
      go_ret
      exact ⟨rfl, Grown.refl _⟩

/-! ### THE ROW's STEP: WRITTEN OUT: LEAVE IT -/
set_option maxRecDepth 100000 in
theorem lifted (os : Os) (started : os.Started) (H : Type) (enc : TypeId × Value → H) :
    ReturnsInHanded {} Try.checked os 3 .any (Rows.ratingTurnsSpec.pre6 enc Try.prog Try.f3 Rows.ratingTurnsRow.domain false) (Rows.ratingTurnsSpec.post enc Try.prog Try.f3 false true false false) := by
  refine returnsInHanded_of_change (C := Try.checked) own started (by kernel_rfl) Try.func3
    (ChangeSpec.witness6 (enc := enc) (C := Try.checked) false ⟨#[], #[.int .i64 0, .int .i64 0, .int .i64 0, .int .i64 0, .int .i64 0], []⟩ 8 (by kernel_rfl) (by kernel_rfl) (by kernel_rfl) (by kernel_rfl)) ?_
  intro W base args ds gs before hval0 hW hcnd _
  have hval : ∀ (j : Nat) t v, Try.f3.params[j]? = some t → args[j]? = some v → Value.okWide Try.prog W .any base t v := hval0
  have hW' := hW
  obtain ⟨p, q, hA0, hV, rfl, hfz, hnd⟩ := hW
  have hA : DataW.TrodAll enc Try.prog W 0 (fun _ => true) true Try.f3.params.toList args.toList ds p := hA0
  rw [Try.params3] at hA hval
  obtain ⟨v0, vs0, d0, ds0, p0, q0, hargs, rfl, rfl, h0, r0⟩ := trodAll_cons hA
  obtain ⟨v1, vs1, d1, ds1, p1, q1, rfl, rfl, rfl, h1, r1⟩ := trodAll_cons r0
  obtain ⟨v2, vs2, d2, ds2, p2, q2, rfl, rfl, rfl, h2, r2⟩ := trodAll_cons r1
  obtain ⟨v3, vs3, d3, ds3, p3, q3, rfl, rfl, rfl, h3, r3⟩ := trodAll_cons r2
  obtain ⟨v4, vs4, d4, ds4, p4, q4, rfl, rfl, rfl, h4, r4⟩ := trodAll_cons r3
  obtain ⟨rfl, rfl, rfl⟩ := trodAll_nil r4
  obtain rfl : args = #[v0, v1, v2, v3, v4] := by cases args; simp_all
  obtain ⟨rfl, rfl⟩ := trodVars_none hV
  obtain ⟨a0, rfl, rfl, rfl, w0⟩ := open_int Try.underlying3 (hval 0 3 v0 rfl rfl) h0
  obtain ⟨a1, rfl, rfl, rfl, w1⟩ := open_int Try.underlying3 (hval 1 3 v1 rfl rfl) h1
  obtain ⟨a2, rfl, rfl, rfl, w2⟩ := open_int Try.underlying3 (hval 2 3 v2 rfl rfl) h2
  obtain ⟨a3, rfl, rfl, rfl, w3⟩ := open_int Try.underlying3 (hval 3 3 v3 rfl rfl) h3
  obtain ⟨a4, rfl, rfl, rfl, w4⟩ := open_int Try.underlying3 (hval 4 3 v4 rfl rfl) h4
  clear hA0 hval0
  simp only [List.append_nil] at hW'
  refine (walk a0 a1 a2 a3 a4 w0 w1 w2 w3 w4 W).mono fun e W' ⟨he, hg⟩ => ?_
  subst he
  exact ⟨_, rfl, post_of_same (pa := []) (pv := []) hW' (fun _ _ _ => (trodAll_cons_mk (shut_bool Try.underlying4 _) trodAll_mk0)) (fun sp _ => (trodAll_cons_mk (shut_int Try.underlying3 w0) (trodAll_cons_mk (shut_int Try.underlying3 w1) (trodAll_cons_mk (shut_int Try.underlying3 w2) (trodAll_cons_mk (shut_int Try.underlying3 w3) (trodAll_cons_mk (shut_int Try.underlying3 w4) trodAll_mk0)))))) (fun _ _ => rfl) rfl
    (hg.frame _) hg.2.1 (ok_one (by kernel_rfl) rfl (okWide_bool_mk Try.underlying4 _))⟩

theorem over : Rows.ratingTurnsRow.holds Try.pinned (OpenSpec.ofChange Rows.ratingTurnsSpec) :=
  OpenClaim.holds_of_wide 3 Try.f3 rfl rfl rfl rfl rfl rfl rfl ⟨rfl, rfl, rfl, rfl, rfl⟩ rfl rfl rfl rfl rfl (by kernel_rfl) Try.func3 (by kernel_rfl)
    (of_decide_eq_true (by kernel_rfl)) (by unfold Func.isWrapper; first | (rw [if_pos (by decide +kernel)]; kernel_rfl) | (rw [if_neg (by decide +kernel)]; exact ⟨rfl, rfl⟩))
    (fun os started H enc _ => lifted os started H enc)

/-- ████ THE STATEMENT ████ -/
theorem proved : Rows.RatingTurnsSaid :=
  over
#print axioms proved
end Go.Proofs.Ytgbedogdikflcaa.ratingTurns
