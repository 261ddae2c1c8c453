/- RobinWhole: the schedule is accepted: each two players meet once, or twice with both colours. For every input, no condition. -/
import Derived.Test.YtdmidjcjmkcopaaRobAll
import Derived.Test.YtdmidjcjmkcopaaRobinFair
namespace Go.Proofs.Ytdmidjcjmkcopaa.robinWhole
open Go.ChangeShapes Go.WideShapes Go.ChangeAt Go.RowKit Go.Proofs.Ytdmidjcjmkcopaa.robinFair
set_option linter.unusedVariables false

theorem walk_no (n : Int) (tw : Bool) (w : World) (h : n < 2 ∨ 32 < n) :
    Calls Try.prog 5 #[.int .i64 n, .bool tw] w fun e w' => e = .returned (.bool true) ∧ Below w.heap.size w w' := by
  have H := Lib.hid h
  clear h
  go_enter Try.func5, Try.ntmps5
  go_wp2_with fail
  refine (roundsOwn _).mono ?_
  rintro e w' ⟨rfl, rfl⟩
  go_wp2_with fail
  refine (All_no n tw _ H.out).mono ?_
  rintro e w' ⟨rfl, rfl⟩
  go_wp2_with fail
  refine (Check_range n tw _ _ H.out).mono ?_
  rintro e w1 ⟨rfl, hb⟩
  go_wp2
  go_ret
  exact ⟨rfl, hb⟩

theorem walk_ok (n : Nat) (tw : Bool) (w : World) (h0 : 2 ≤ n) (h1 : n ≤ 32) :
    Calls Try.prog 5 #[.int .i64 n, .bool tw] w fun e w' => e = .returned (.bool true) ∧ Below w.heap.size w w' := by
  have hlen : (allZ n tw).length ≤ 100 := by
    have := allZ_len n tw h0 h1
    have : roundsZ n tw ≤ 62 := by unfold roundsZ halfZ; split <;> omega
    omega
  have HL := Lib.hid (allZ_len n tw h0 h1)
  have HR : Hid (∀ r ∈ allZ n tw, r.length ≤ 100) := Lib.hid (fun r hr => by
    obtain ⟨k, _, rfl⟩ := List.mem_map.1 hr
    have := games_len n k (by omega) (by omega)
    omega)
  have HW := Lib.hid (whole n tw h0 h1).1
  go_enter Try.func5, Try.ntmps5
  go_wp2_with fail
  refine (roundsOwn _).mono ?_
  rintro e w' ⟨rfl, rfl⟩
  go_wp2_with fail
  refine (All_ok n tw _ h0 h1).mono ?_
  rintro e w1 ⟨v, vs, rfl, hm, hb⟩
  have HM := Lib.hid hm
  clear hm
  go_wp2_with fail
  refine (Check_main n tw (allZ n tw) _ _ h0 h1 HM.out.sched hlen HR.out HL.out).mono ?_
  rintro e w2 ⟨rfl, hb2⟩
  rw [HW.out]
  go_wp2
  go_ret
  exact ⟨rfl, hb.trans (hb2.mono hb.size)⟩

theorem walk (n : Int) (tw : Bool) (w : World) :
    Calls Try.prog 5 #[.int .i64 n, .bool tw] w fun e w' => e = .returned (.bool true) ∧ Below w.heap.size w w' := by
  by_cases h : n < 2 ∨ 32 < n
  · exact walk_no n tw w h
  · obtain ⟨m, rfl⟩ : ∃ m : Nat, n = (m : Int) := ⟨n.toNat, by omega⟩
    exact walk_ok m tw w (by omega) (by omega)

section
theorem own : ownKnob Try.prog.godebug = none := by kernel_rfl
theorem laidOut : laidOutB Try.prog = true := by kernel_rfl

set_option maxRecDepth 100000 in
theorem lifted (os : Os) (started : os.Started) (H : Type) (enc : TypeId × Value → H) :
    ReturnsInHanded {} Try.checked os 5 .any (Rows.robinWholeSpec.pre6 enc Try.prog Try.f5 Rows.robinWholeRow.domain false) (Rows.robinWholeSpec.post enc Try.prog Try.f5 false true false false) := by
  refine returnsInHanded_of_change (C := Try.checked) own started (by kernel_rfl) Try.func5
    (ChangeSpec.witness6 (enc := enc) (C := Try.checked) false ⟨#[], #[.int .i64 0, .bool false], []⟩ 8 (by kernel_rfl) (by kernel_rfl) (by kernel_rfl) (by kernel_rfl)) ?_
  intro W base args ds gs before hval0 hW hcnd _
  have hval : ∀ (j : Nat) t v, Try.f5.params[j]? = some t → args[j]? = some v → Value.okWide Try.prog W .any base t v := hval0
  have hW' := hW
  obtain ⟨p, q, hA0, hV, rfl, hfz, hnd⟩ := hW
  have hA : DataW.TrodAll enc Try.prog W 0 (fun _ => true) true Try.f5.params.toList args.toList ds p := hA0
  rw [Try.params5] at hA hval
  have hAll := hA
  obtain ⟨v0, vs0, d0, ds0, p0, q0, hargs, rfl, rfl, h0, r0⟩ := trodAll_cons hA
  obtain ⟨v1, vs1, d1, ds1, p1, q1, rfl, rfl, rfl, h1, r1⟩ := trodAll_cons r0
  obtain ⟨rfl, rfl, rfl⟩ := trodAll_nil r1
  obtain rfl : args = #[v0, v1] := by cases args; simp_all
  obtain ⟨rfl, rfl⟩ := trodVars_none hV
  obtain ⟨a0, rfl, rfl, rfl, w0⟩ := open_int Try.underlying3 (hval 0 3 v0 rfl rfl) h0
  obtain ⟨a1, rfl, rfl, rfl⟩ := open_bool Try.underlying4 (hval 1 4 v1 rfl rfl) h1
  clear hA0 hval0
  refine (walk a0 a1 W).mono fun e W' ⟨he, bel⟩ => ?_
  subst he
  exact ⟨_, rfl, _, _, _, [], _, [], hW', trodAll_mk1 (shut_bool Try.underlying4 _), trodAll_stays laidOut bel (by kernel_rfl) hAll, rfl, bel.frame _, fun h => by cases h⟩

theorem over : Rows.robinWholeRow.holds Try.pinned (OpenSpec.ofChange Rows.robinWholeSpec) :=
  OpenClaim.holds_of_wide 5 Try.f5 rfl rfl rfl rfl rfl rfl rfl ⟨rfl, rfl, rfl, rfl, rfl⟩ rfl rfl rfl rfl rfl (by kernel_rfl) Try.func5 (by kernel_rfl)
    (of_decide_eq_true (by kernel_rfl)) (by unfold Func.isWrapper; first | (rw [if_pos (by decide +kernel)]; kernel_rfl) | (rw [if_neg (by decide +kernel)]; exact ⟨rfl, rfl⟩))
    (fun os started H enc _ => lifted os started H enc)

theorem proved : Rows.RobinWholeSaid := over
end
#print axioms proved
end Go.Proofs.Ytdmidjcjmkcopaa.robinWhole
