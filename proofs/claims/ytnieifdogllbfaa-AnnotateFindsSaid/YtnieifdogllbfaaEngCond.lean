/- The contract of rules.conditions. -/
import Derived.Test.YtnieifdogllbfaaEngChkA
import Derived.Deep.QuietTactic
import Derived.Test.YtnieifdogllbfaaOwn
namespace Go.Proofs.Ytnieifdogllbfaa
open Go.ChangeShapes Go.WideShapes Go.ChangeAt Go.RowKit
set_option linter.unusedVariables false

set_option maxRecDepth 100000 in
set_option maxHeartbeats 4000000 in
theorem conditions_any (R : RulesZ) (vp vs ve : Value) (w : World) (h : RdR w R vp vs ve) (hn : 1 ≤ R.pieces.length) :
    Calls Try.prog 30 #[(.agg #[.string R.name, .int .i64 R.width, .int .i64 R.height, vp, vs, .bool R.falls, .bool R.keeps, ve, .int .i64 R.blocked, .int .i64 R.quiet, .int .i64 R.rept])] w fun e w' => e = .returned (.int .i64 (condErr R)) ∧ Below w.heap.size w w' := by
  obtain ⟨hp, hs, he⟩ := h
  obtain ⟨ap, cp, rfl, hp1, hp2⟩ := hp.form
  obtain ⟨ae, ce, rfl, he1, he2⟩ := he.form
  unfold maxLen at hp2 he2
  have HC : Hid (condErr R = if 6 < R.ends.length then 2 else scanE (fun i => endErr R.pieces.length (R.ends.getD i default)) 0 R.ends.length) := Lib.hid rfl
  generalize hlp : R.pieces.length = np at *
  generalize hes : R.ends = es at *
  have HE := Lib.hid he
  clear hlp hes hp hs he
  by_cases h6 : 6 < es.length
  · have h6' : (6 : Int) < (es.length : Int) := by omega
    go_enter Try.func30, Try.ntmps30
    go_wp2
    go_ret
    exact ⟨by rw [HC.out, if_pos h6]; rfl, (Below.refl _ _).alloc (by go_size) _⟩
  · have h6' : ¬ (6 : Int) < (es.length : Int) := by omega
    go_enter Try.func30, Try.ntmps30
    go_wp2_with fail
    go_loopw [14] (fun i wr => ∃ k : Nat, k ≤ es.length ∧ i = .int .i64 k ∧ Hid (scanE (fun i => endErr np (es.getD i default)) 0 es.length = scanE (fun i => endErr np (es.getD i default)) k (es.length - k)) ∧ Below (w.heap.size + 1) (w.alloc (.cells #[.string R.name, .int .i64 R.width, .int .i64 R.height, (.slice ap np cp), vs, .bool R.falls, .bool R.keeps, (.slice ae es.length ce), .int .i64 R.blocked, .int .i64 R.quiet, .int .i64 R.rept] 26)) wr) (fun i _ => es.length - (intOf i).toNat)
    case atStart => exact ⟨0, Nat.zero_le _, rfl, Lib.hid rfl, Below.refl _ _⟩
    case round =>
      obtain ⟨k, hk, rfl, HK, hbl⟩ := hrel
      have hz := hbl.size
      simp at hz
      have hz1 : w.heap.size < wr.heap.size := by omega
      have hbel : Below w.heap.size w wr := ((Below.refl _ _).alloc (by go_size) _).trans (hbl.mono (by go_size))
      by_cases hlt : k < es.length
      · have HS := Lib.hid (scanE_step (fun i => endErr np (es.getD i default)) k es.length hlt)
        obtain ⟨g, o, rfl, hg, hc⟩ := ends_some (HE.out.below hbel (Nat.le_refl _)) (by omega)
        obtain ⟨d0, d1, d2, d3⟩ := hc k hlt
        have q3 : wr.cell? ⟨w.heap.size, 3, none⟩ = some (.slice ap np cp) := (hbl.cell (by simp)).trans (by simp [go_sem])
        have hk0 : (0 : Int) ≤ (k : Int) := by omega
        have hk1 : (k : Int) < (es.length : Int) := by omega
        have hw1 : IntKind.i64.wrap ((np : Int) - 1) = (np : Int) - 1 := IntWalk.i64_in _ (by omega)
        clear hc
        generalize es.getD k default = x at *
        obtain ⟨xk, xp, xc, xl⟩ := x
        simp only at d0 d1 d2 d3
        have HX : Hid (endErr np ⟨xk, xp, xc, xl⟩ = if (xk == 0) = true then (if (wb xc 1 64 && xp == 0) = true then 0 else 4) else if (xk == 1) = true then (if (xc == 0 && wb xp 0 ((np : Int) - 1)) = true then 0 else 4) else if (xk == 2) = true then (if (wb xc 1 64 && wb xp 0 ((np : Int) - 1)) = true then 0 else 4) else 1) := Lib.hid rfl
        cases k0 : (xk == 0)
        · cases k1 : (xk == 1)
          · cases k2 : (xk == 2)
            · skip
              have HX2 := HX.out
              simp only [k0, k1, k2, if_false, Bool.false_eq_true] at HX2
              clear HX
              have HX := Lib.hid HX2
              clear HX2
              go_wp2_with fail
              go_quiet ((go_at_call 26; exact qleft (within_any _ _ _)))
              go_wp2_with fail
              first
                | (go_roundw
                   case rel => exact ⟨k + 1, by omega, by go_num, Lib.hid (by rw [HK.out, HS.out, if_pos HX.out]), below_drewN (hbl.alloc (by go_size) _) _⟩
                   case measure => simp [intOf]; omega)
                | (go_ret
                   exact ⟨by rw [HC.out, if_neg (by omega), HK.out, HS.out, if_neg (by rw [HX.out]; decide), HX.out]; rfl, below_drewN (hbel.alloc (by go_size) _) _⟩)
            · cases b1 : wb xc 1 64 <;> cases b2 : wb xp 0 ((np : Int) - 1)
              all_goals
                have HX2 := HX.out
                simp only [k0, k1, k2, b1, b2, Bool.and_true, Bool.and_false, Bool.true_and, Bool.false_and, if_true, if_false, Bool.false_eq_true] at HX2
                clear HX
                have HX := Lib.hid HX2
                clear HX2
                go_wp2_with fail
                go_quiet ((go_at_call 26; exact qleft (within_any _ _ _)))
                go_wp2_with fail
                first
                  | (go_roundw
                     case rel => exact ⟨k + 1, by omega, by go_num, Lib.hid (by rw [HK.out, HS.out, if_pos HX.out]), below_drewN (hbl.alloc (by go_size) _) _⟩
                     case measure => simp [intOf]; omega)
                  | (go_ret
                     exact ⟨by rw [HC.out, if_neg (by omega), HK.out, HS.out, if_neg (by rw [HX.out]; decide), HX.out]; rfl, below_drewN (hbel.alloc (by go_size) _) _⟩)
          · cases b4 : (xc == 0) <;> cases b2 : wb xp 0 ((np : Int) - 1)
            all_goals
              have HX2 := HX.out
              simp only [k0, k1, b4, b2, Bool.and_true, Bool.and_false, if_true, if_false, Bool.false_eq_true] at HX2
              clear HX
              have HX := Lib.hid HX2
              clear HX2
              go_wp2_with fail
              go_quiet ((go_at_call 26; exact qleft (within_any _ _ _)))
              go_wp2_with fail
              first
                | (go_roundw
                   case rel => exact ⟨k + 1, by omega, by go_num, Lib.hid (by rw [HK.out, HS.out, if_pos HX.out]), below_drewN (hbl.alloc (by go_size) _) _⟩
                   case measure => simp [intOf]; omega)
                | (go_ret
                   exact ⟨by rw [HC.out, if_neg (by omega), HK.out, HS.out, if_neg (by rw [HX.out]; decide), HX.out]; rfl, below_drewN (hbel.alloc (by go_size) _) _⟩)
        · cases b1 : wb xc 1 64 <;> cases b3 : (xp == 0)
          all_goals
            have HX2 := HX.out
            simp only [k0, b1, b3, Bool.and_true, Bool.and_false, Bool.true_and, Bool.false_and, if_true, if_false, Bool.false_eq_true] at HX2
            clear HX
            have HX := Lib.hid HX2
            clear HX2
            go_wp2_with fail
            go_quiet ((go_at_call 26; exact qleft (within_any _ _ _)))
            go_wp2_with fail
            first
              | (go_roundw
                 case rel => exact ⟨k + 1, by omega, by go_num, Lib.hid (by rw [HK.out, HS.out, if_pos HX.out]), below_drewN (hbl.alloc (by go_size) _) _⟩
                 case measure => simp [intOf]; omega)
              | (go_ret
                 exact ⟨by rw [HC.out, if_neg (by omega), HK.out, HS.out, if_neg (by rw [HX.out]; decide), HX.out]; rfl, below_drewN (hbel.alloc (by go_size) _) _⟩)
      · obtain rfl : k = es.length := by omega
        go_wp2_with fail
        go_ret
        exact ⟨by rw [HC.out, if_neg (by omega), HK.out, Nat.sub_self]; rfl, hbel⟩

end Go.Proofs.Ytnieifdogllbfaa
