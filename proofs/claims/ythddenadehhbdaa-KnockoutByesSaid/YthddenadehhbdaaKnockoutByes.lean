/- KnockoutByes is true at every input: the best players have the byes. No condition. -/
import Derived.Test.YthddenadehhbdaaKnByesW
import Derived.Test.YthddenadehhbdaaKnBr
import Derived.Test.YthddenadehhbdaaSortI
import Derived.WalkLawsBesides
import Derived.Test.YthddenadehhbdaaChecked
import Derived.ProofKit
namespace Go.Proofs.Ythddenadehhbdaa.knockoutByes
open Go.ChangeShapes Go.WideShapes Go.ChangeAt Go.RowKit
set_option linter.unusedVariables false

theorem walk_no (n : Int) (w : World) (h : n < 2 ∨ 32 < n) :
    Calls Try.prog 10 #[.int .i64 n] w fun e w' => e = .returned (.bool true) ∧ Below w.heap.size w w' := by
  have HB := Lib.hid (fun w => Byes_no n w h)
  have HR := Lib.hid (fun w => Rounds_no n w h)
  clear h
  go_enter Try.func10, Try.ntmps10
  go_wp2_with fail
  refine (brackets_any w).mono ?_
  rintro e w0 ⟨rfl, hb0⟩
  go_wp2_with fail
  refine (HB.out w0).mono ?_
  rintro e w' ⟨rfl, rfl⟩
  go_wp2_with fail
  refine (HR.out w0).mono ?_
  rintro e w' ⟨rfl, rfl⟩
  go_wp2
  go_ret
  exact ⟨rfl, hb0⟩

set_option maxRecDepth 100000 in
theorem walk_ok (n : Nat) (w : World) (h0 : 2 ≤ n) (h1 : n ≤ 32) :
    Calls Try.prog 10 #[.int .i64 n] w fun e w' => e = .returned (.bool true) ∧ Below w.heap.size w w' := by
  have hsb := sortB_eq n h0 h1
  have HB : Hid (∀ w : World, Calls Try.prog 25 #[.int .i64 n] w fun e w' => ∃ v, e = .returned (.tuple #[v, .int .i64 0]) ∧ w'.ownsRow w.heap.size 3 1 v (2 * halfN n - n) (ints (upto (2 * halfN n - n))) ∧ Below w.heap.size w w') := Lib.hid (fun w => by
    have := Byes_ok sort_said n w h0 h1
    rw [hsb.1, upto_len] at this
    exact this)
  have hk := kOf_b n
  have hh := halfN_b n
  have hp := pow_half n
  have HR := Lib.hid (fun w => Rounds_ok n w h0 h1)
  have hle := hsb.2
  clear hsb
  obtain ⟨M, hM⟩ : ∃ M, M = 2 * halfN n - n := ⟨_, rfl⟩
  rw [← hM] at HB
  have hMn : (M : Int) = 2 ^ kOf n - (n : Int) := by
    have : (2 : Int) ^ kOf n = ((2 ^ kOf n : Nat) : Int) := by simp
    rw [this, hp]
    omega
  have hM16 : M ≤ 32 := by omega
  have HQ := Lib.hid hMn
  clear hMn
  generalize halfN n = H at *
  clear hp hM hle
  generalize kOf n = K at *
  go_enter Try.func10, Try.ntmps10
  go_wp2_with fail
  refine (brackets_any w).mono ?_
  rintro e w0 ⟨rfl, hb0⟩
  go_wp2_with fail
  refine (HB.out w0).mono ?_
  rintro e w1 ⟨v, rfl, ho, hb1⟩
  have hb : Below w.heap.size w w1 := hb0.trans (hb1.mono hb0.size)
  obtain ⟨a, c, hv⟩ : ∃ a c, v = .slice a M c := by
    rcases ho.2 with ⟨h, h0⟩ | ⟨g, c, _, h, _⟩
    · exact ⟨none, 0, by rw [h, h0]⟩
    · exact ⟨_, c, h⟩
  subst hv
  have HO := Lib.hid ho
  clear ho hb1
  go_wp2_with fail
  refine (HR.out w1).mono ?_
  rintro e w' ⟨rfl, rfl⟩
  go_wp2_with fail
  go_loop [32] (fun i => ∃ k : Nat, k ≤ M ∧ i = .int .i64 k) (fun i => M - (intOf i).toNat)
  case atStart => exact ⟨0, Nat.zero_le _, rfl⟩
  case round =>
    obtain ⟨k, hkk, rfl⟩ := hrel
    by_cases hlt : k < M
    · obtain ⟨g, c', hg⟩ := own_some HO.out (by omega)
      simp only [Value.slice.injEq, true_and] at hg
      obtain ⟨rfl, rfl⟩ := hg
      have ck : w1.cell? ⟨g, k, none⟩ = some (.int .i64 k) := by
        have := (HO.out.cellAt k (by omega)).trans (ints_get _ k (by rw [upto_len]; exact hlt))
        rw [upto_get M k hlt] at this
        exact this
      go_wp2_with fail
      go_round
      case rel => exact ⟨k + 1, by omega, by go_num⟩
      case measure => simp [intOf]; omega
    · obtain rfl : k = M := by omega
      have hK : K = 1 ∨ K = 2 ∨ K = 3 ∨ K = 4 ∨ K = 5 := by omega
      rcases hK with rfl | rfl | rfl | rfl | rfl
      all_goals
        clear HR HB
        go_wp2
        go_ret
        exact ⟨by have hq := HQ.out; simp only [Int.reducePow] at hq; simp; omega, hb⟩

theorem walk (n : Int) (w : World) :
    Calls Try.prog 10 #[.int .i64 n] w fun e w' => e = .returned (.bool true) ∧ Below w.heap.size w w' := by
  by_cases h : n < 2 ∨ 32 < n
  · exact walk_no n w h
  · obtain ⟨m, rfl⟩ : ∃ m : Nat, n = (m : Int) := ⟨n.toNat, by omega⟩
    exact walk_ok m w (by omega) (by omega)

section
theorem own : ownKnob Try.prog.godebug = none := by kernel_rfl
theorem laidOut : laidOutB Try.prog = true := by kernel_rfl

set_option maxRecDepth 100000 in
theorem lifted (os : Os) (started : os.Started) (H : Type) (enc : TypeId × Value → H) :
    ReturnsInHanded {} Try.checked os 10 .any (Rows.knockoutByesSpec.pre6 enc Try.prog Try.f10 Rows.knockoutByesRow.domain false) (Rows.knockoutByesSpec.post enc Try.prog Try.f10 false true false false) := by
  refine returnsInHanded_of_change (C := Try.checked) own started (by kernel_rfl) Try.func10
    (ChangeSpec.witness6 (enc := enc) (C := Try.checked) false ⟨#[], #[.int .i64 0], []⟩ 8 (by kernel_rfl) (by kernel_rfl) (by kernel_rfl) (by kernel_rfl)) ?_
  intro W base args ds gs before hval0 hW hcnd _
  have hval : ∀ (j : Nat) t v, Try.f10.params[j]? = some t → args[j]? = some v → Value.okWide Try.prog W .any base t v := hval0
  have hW' := hW
  obtain ⟨p, q, hA0, hV, rfl, hfz, hnd⟩ := hW
  have hA : DataW.TrodAll enc Try.prog W 0 (fun _ => true) true Try.f10.params.toList args.toList ds p := hA0
  rw [Try.params10] at hA hval
  have hAll := hA
  obtain ⟨v0, vs0, d0, ds0, p0, q0, hargs, rfl, rfl, h0, r0⟩ := trodAll_cons hA
  obtain ⟨rfl, rfl, rfl⟩ := trodAll_nil r0
  obtain rfl : args = #[v0] := by cases args; simp_all
  obtain ⟨rfl, rfl⟩ := trodVars_none hV
  obtain ⟨a0, rfl, rfl, rfl, w0⟩ := open_int Try.underlying3 (hval 0 3 v0 rfl rfl) h0
  clear hA0 hval0
  refine (walk a0 W).mono fun e W' ⟨he, bel⟩ => ?_
  subst he
  exact ⟨_, rfl, _, _, _, [], _, [], hW', trodAll_mk1 (shut_bool Try.underlying4 _), trodAll_stays laidOut bel (by kernel_rfl) hAll, rfl, bel.frame _, fun h => by cases h⟩

theorem over : Rows.knockoutByesRow.holds Try.pinned (OpenSpec.ofChange Rows.knockoutByesSpec) :=
  OpenClaim.holds_of_wide 10 Try.f10 rfl rfl rfl rfl rfl rfl rfl ⟨rfl, rfl, rfl, rfl, rfl⟩ rfl rfl rfl rfl rfl (by kernel_rfl) Try.func10 (by kernel_rfl)
    (of_decide_eq_true (by kernel_rfl)) (by unfold Func.isWrapper; first | (rw [if_pos (by decide +kernel)]; kernel_rfl) | (rw [if_neg (by decide +kernel)]; exact ⟨rfl, rfl⟩))
    (fun os started H enc _ => lifted os started H enc)

theorem proved : Rows.KnockoutByesSaid := over
end
#print axioms proved
end Go.Proofs.Ythddenadehhbdaa.knockoutByes
