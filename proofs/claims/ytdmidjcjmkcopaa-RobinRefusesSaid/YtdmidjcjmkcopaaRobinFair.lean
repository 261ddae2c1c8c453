/- RobinFair: in a single schedule nobody moves first more than once more often than second, or the other way round; in a double one just as often. For every input, no condition. -/
import Derived.Test.YtdmidjcjmkcopaaRobCol
import Derived.Test.YtdmidjcjmkcopaaFrame
namespace Go.Proofs.Ytdmidjcjmkcopaa.robinFair
open Go.ChangeShapes Go.WideShapes Go.ChangeAt Go.RowKit
set_option linter.unusedVariables false

theorem roundsOwn (w : World) : Calls Try.prog 7 #[] w fun e w' => e = .returned (.bool true) ∧ w = w' := by
  have e2 : roundsZ 2 false = 1 := by decide
  have C := Lib.hid (fun w => Rounds_ok 2 false w (by omega) (by omega))
  rw [e2] at C
  go_enter Try.func7, Try.ntmps7
  go_wp2_with fail
  refine (C.out _).mono ?_
  rintro e w' ⟨rfl, rfl⟩
  go_wp2
  go_ret
  exact ⟨rfl, rfl⟩

theorem walk_no (n : Int) (tw : Bool) (w : World) (h : n < 2 ∨ 32 < n) :
    Calls Try.prog 3 #[.int .i64 n, .bool tw] w fun e w' => e = .returned (.bool true) ∧ Below w.heap.size w w' := by
  have H := Lib.hid h
  clear h
  go_enter Try.func3, Try.ntmps3
  go_wp2_with fail
  refine (roundsOwn _).mono ?_
  rintro e w' ⟨rfl, rfl⟩
  go_wp2_with fail
  refine (Rounds_no n tw _ H.out).mono ?_
  rintro e w' ⟨rfl, rfl⟩
  go_wp2
  go_ret
  exact ⟨rfl, Below.refl _ _⟩

theorem fair_facts {n : Nat} {tw : Bool} {d : Int} (h : fairD n tw d = true) : (tw = true → d = 0) ∧ -1 ≤ d ∧ d ≤ 1 ∧ (n % 2 = 1 → d = 0) := by
  unfold fairD at h
  simp at h
  cases tw <;> simp at h ⊢ <;> omega

set_option maxHeartbeats 2000000 in
theorem walk_ok (n : Nat) (tw : Bool) (w : World) (h0 : 2 ≤ n) (h1 : n ≤ 32) :
    Calls Try.prog 3 #[.int .i64 n, .bool tw] w fun e w' => e = .returned (.bool true) ∧ Below w.heap.size w w' := by
  have HF := Lib.hid (fair n tw h0 h1)
  have HL := Lib.hid (colTo_len n (roundsZ n tw).toNat)
  go_enter Try.func3, Try.ntmps3
  go_wp2_with fail
  refine (roundsOwn _).mono ?_
  rintro e w' ⟨rfl, rfl⟩
  go_wp2_with fail
  refine (Rounds_ok n tw _ (by omega) (by omega)).mono ?_
  rintro e w' ⟨rfl, rfl⟩
  go_wp2_with fail
  refine (Colours_any n tw _ h0 h1).mono ?_
  rintro e w1 ⟨G, rfl, hown, hb⟩
  have HO := Lib.hid hown
  clear hown
  generalize colTo n (roundsZ n tw).toNat = l at *
  generalize roundsZ n tw = kk at *
  go_wp2_with fail
  go_loop [32] (fun i => ∃ k : Nat, k ≤ n ∧ i = .int .i64 k) (fun i => n - (intOf i).toNat)
  case atStart => exact ⟨0, Nat.zero_le _, rfl⟩
  case round =>
    obtain ⟨k, hk, rfl⟩ := hrel
    by_cases hlt : k < n
    · have hlen := HL.out
      have hd := fair_facts (HF.out (l.getD k 0) (by rw [List.getD_eq_getElem?_getD, List.getElem?_eq_getElem (by omega)]; exact List.getElem_mem _))
      have cc : w1.cell? ⟨G, k, none⟩ = some (.int .i64 (l.getD k 0)) := (HO.out.cellAt k (by omega)).trans (ints_get _ k (by omega))
      clear hlen
      generalize l.getD k 0 = d at *
      obtain ⟨d1, d2, d3, d4⟩ := hd
      by_cases hz : d = 0
      · subst hz
        clear d1 d2 d3 d4
        cases tw
        all_goals
          cases hm : ((n : Int) % 2 == 1)
          all_goals
            go_wp2
            go_round
            case rel => exact ⟨k + 1, by omega, by go_num⟩
            case measure => simp [intOf]; omega
      · have ht : tw = false := by cases tw; rfl; exact absurd (d1 rfl) hz
        have hm : ((n : Int) % 2 == 1) = false := by
          rw [beq_eq_false_iff_ne]; intro h; exact hz (d4 (by omega))
        subst ht
        clear d1 d4
        go_wp2
        go_round
        case rel => exact ⟨k + 1, by omega, by go_num⟩
        case measure => simp [intOf]; omega
    · obtain rfl : k = n := by omega
      go_wp2
      go_ret
      exact ⟨rfl, hb⟩

theorem walk (n : Int) (tw : Bool) (w : World) :
    Calls Try.prog 3 #[.int .i64 n, .bool tw] w fun e w' => e = .returned (.bool true) ∧ Below w.heap.size w w' := by
  by_cases h : n < 2 ∨ 32 < n
  · exact walk_no n tw w h
  · obtain ⟨m, rfl⟩ : ∃ m : Nat, n = (m : Int) := ⟨n.toNat, by omega⟩
    exact walk_ok m tw w (by omega) (by omega)

section
theorem own : ownKnob Try.prog.godebug = none := by kernel_rfl
theorem laidOut : laidOutB Try.prog = true := by kernel_rfl

set_option maxRecDepth 100000 in
theorem lifted (os : Os) (started : os.Started) (H : Type) (enc : TypeId × Value → H) :
    ReturnsInHanded {} Try.checked os 3 .any (Rows.robinFairSpec.pre6 enc Try.prog Try.f3 Rows.robinFairRow.domain false) (Rows.robinFairSpec.post enc Try.prog Try.f3 false true false false) := by
  refine returnsInHanded_of_change (C := Try.checked) own started (by kernel_rfl) Try.func3
    (ChangeSpec.witness6 (enc := enc) (C := Try.checked) false ⟨#[], #[.int .i64 0, .bool false], []⟩ 8 (by kernel_rfl) (by kernel_rfl) (by kernel_rfl) (by kernel_rfl)) ?_
  intro W base args ds gs before hval0 hW hcnd _
  have hval : ∀ (j : Nat) t v, Try.f3.params[j]? = some t → args[j]? = some v → Value.okWide Try.prog W .any base t v := hval0
  have hW' := hW
  obtain ⟨p, q, hA0, hV, rfl, hfz, hnd⟩ := hW
  have hA : DataW.TrodAll enc Try.prog W 0 (fun _ => true) true Try.f3.params.toList args.toList ds p := hA0
  rw [Try.params3] at hA hval
  have hAll := hA
  obtain ⟨v0, vs0, d0, ds0, p0, q0, hargs, rfl, rfl, h0, r0⟩ := trodAll_cons hA
  obtain ⟨v1, vs1, d1, ds1, p1, q1, rfl, rfl, rfl, h1, r1⟩ := trodAll_cons r0
  obtain ⟨rfl, rfl, rfl⟩ := trodAll_nil r1
  obtain rfl : args = #[v0, v1] := by cases args; simp_all
  obtain ⟨rfl, rfl⟩ := trodVars_none hV
  obtain ⟨a0, rfl, rfl, rfl, w0⟩ := open_int Try.underlying3 (hval 0 3 v0 rfl rfl) h0
  obtain ⟨a1, rfl, rfl, rfl⟩ := open_bool Try.underlying4 (hval 1 4 v1 rfl rfl) h1
  clear hA0 hval0
  refine (walk a0 a1 W).mono fun e W' ⟨he, bel⟩ => ?_
  subst he
  exact ⟨_, rfl, _, _, _, [], _, [], hW', trodAll_mk1 (shut_bool Try.underlying4 _), trodAll_stays laidOut bel (by kernel_rfl) hAll, rfl, bel.frame _, fun h => by cases h⟩

theorem over : Rows.robinFairRow.holds Try.pinned (OpenSpec.ofChange Rows.robinFairSpec) :=
  OpenClaim.holds_of_wide 3 Try.f3 rfl rfl rfl rfl rfl rfl rfl ⟨rfl, rfl, rfl, rfl, rfl⟩ rfl rfl rfl rfl rfl (by kernel_rfl) Try.func3 (by kernel_rfl)
    (of_decide_eq_true (by kernel_rfl)) (by unfold Func.isWrapper; first | (rw [if_pos (by decide +kernel)]; kernel_rfl) | (rw [if_neg (by decide +kernel)]; exact ⟨rfl, rfl⟩))
    (fun os started H enc _ => lifted os started H enc)

theorem proved : Rows.RobinFairSaid := over
end
#print axioms proved
end Go.Proofs.Ytdmidjcjmkcopaa.robinFair
