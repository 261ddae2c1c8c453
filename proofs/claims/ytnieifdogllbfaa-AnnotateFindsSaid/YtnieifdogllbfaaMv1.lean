/- The contracts of moves.filled, moves.way, rules.IsLast. -/
import Derived.Test.YtnieifdogllbfaaMvPlain
import Derived.Test.YtnieifdogllbfaaBox2
import Derived.Test.YtnieifdogllbfaaApp
namespace Go.Proofs.Ytnieifdogllbfaa
open Go.ChangeShapes Go.WideShapes Go.ChangeAt Go.RowKit
set_option linter.unusedVariables false

theorem filled_at (W : Nat) (cells : List Int) (s k : Nat) (hk : k < s / W) : ((List.range (s / W)).drop k).all (fun k => cells.getD (s - (k + 1) * W) 0 != 0) =
    (cells.getD (s - (k + 1) * W) 0 != 0 && ((List.range (s / W)).drop (k + 1)).all (fun k => cells.getD (s - (k + 1) * W) 0 != 0)) := by
  rw [List.drop_eq_getElem_cons (by simpa using hk), List.all_cons, List.getElem_range]
set_option maxRecDepth 100000 in
set_option maxHeartbeats 4000000 in
theorem filled_any (R : RulesZ) (vp vs ve : Value) (p : PosZ) (vc v0 v1 : Value) (s : Nat) (w : World) (hp : RdI w vc p.cells) (K : POk R p) (hs : s < p.cells.length) :
    Calls Try.prog 72 #[(.agg #[.string R.name, .int .i64 R.width, .int .i64 R.height, vp, vs, .bool R.falls, .bool R.keeps, ve, .int .i64 R.blocked, .int .i64 R.quiet, .int .i64 R.rept]), (.agg #[vc, v0, v1, .int .i64 p.turn, .int .i64 p.quiet]), .int .i64 s] w fun e w' => e = .returned (.bool (filledZ R.width.toNat p.cells s)) ∧ Below w.heap.size w w' := by
  have HC := Lib.hid hp
  obtain ⟨ac, cc, rfl, hc1, hc2⟩ := hp.form
  unfold maxLen at hc2
  have hlen := K.len
  obtain ⟨hw1, hw2⟩ := K.r.w
  obtain ⟨W, hW⟩ : ∃ W : Nat, R.width = (W : Int) := ⟨R.width.toNat, by omega⟩
  have HF : Hid (filledZ R.width.toNat p.cells s = ((List.range (s / W)).drop 0).all (fun k => p.cells.getD (s - (k + 1) * W) 0 != 0)) := Lib.hid (by rw [hW]; rfl)
  have HW := Lib.hid hW
  have HD : Hid (s / W * W ≤ s ∧ s < (s / W + 1) * W) := Lib.hid ⟨Nat.div_mul_le_self _ _, by have := Nat.lt_div_mul_add (a := s) (b := W) (by omega); rw [Nat.add_mul, Nat.one_mul]; exact this⟩
  clear hp hW
  go_enter Try.func72, Try.ntmps72
  go_upto_region 1 with (fail)
  have B0 : Box ((w.alloc (.cells #[.string R.name, .int .i64 R.width, .int .i64 R.height, vp, vs, .bool R.falls, .bool R.keeps, ve, .int .i64 R.blocked, .int .i64 R.quiet, .int .i64 R.rept] 26)).alloc (.cells #[.slice ac p.cells.length cc, v0, v1, .int .i64 p.turn, .int .i64 p.quiet] 43)) (w.heap.size) [.string R.name, .int .i64 R.width, .int .i64 R.height, vp, vs, .bool R.falls, .bool R.keeps, ve, .int .i64 R.blocked, .int .i64 R.quiet, .int .i64 R.rept] 26 := ((Box.new' w (w.heap.size) [.string R.name, .int .i64 R.width, .int .i64 R.height, vp, vs, .bool R.falls, .bool R.keeps, ve, .int .i64 R.blocked, .int .i64 R.quiet, .int .i64 R.rept] 26 (by simp <;> omega)).alloc _)
  have B1 : Box ((w.alloc (.cells #[.string R.name, .int .i64 R.width, .int .i64 R.height, vp, vs, .bool R.falls, .bool R.keeps, ve, .int .i64 R.blocked, .int .i64 R.quiet, .int .i64 R.rept] 26)).alloc (.cells #[.slice ac p.cells.length cc, v0, v1, .int .i64 p.turn, .int .i64 p.quiet] 43)) (w.heap.size + 1) [.slice ac p.cells.length cc, v0, v1, .int .i64 p.turn, .int .i64 p.quiet] 43 := (Box.new' (w.alloc (.cells #[.string R.name, .int .i64 R.width, .int .i64 R.height, vp, vs, .bool R.falls, .bool R.keeps, ve, .int .i64 R.blocked, .int .i64 R.quiet, .int .i64 R.rept] 26)) (w.heap.size + 1) [.slice ac p.cells.length cc, v0, v1, .int .i64 p.turn, .int .i64 p.quiet] 43 (by simp <;> omega))
  have HB : Hid (Below w.heap.size w ((w.alloc (.cells #[.string R.name, .int .i64 R.width, .int .i64 R.height, vp, vs, .bool R.falls, .bool R.keeps, ve, .int .i64 R.blocked, .int .i64 R.quiet, .int .i64 R.rept] 26)).alloc (.cells #[.slice ac p.cells.length cc, v0, v1, .int .i64 p.turn, .int .i64 p.quiet] 43))) := Lib.hid (((Below.refl w.heap.size w).alloc (Nat.le_refl _) _).alloc (by simp <;> omega) _)
  have hz0 : w.heap.size + 1 < ((w.alloc (.cells #[.string R.name, .int .i64 R.width, .int .i64 R.height, vp, vs, .bool R.falls, .bool R.keeps, ve, .int .i64 R.blocked, .int .i64 R.quiet, .int .i64 R.rept] 26)).alloc (.cells #[.slice ac p.cells.length cc, v0, v1, .int .i64 p.turn, .int .i64 p.quiet] 43)).heap.size := by simp
  generalize ((w.alloc (.cells #[.string R.name, .int .i64 R.width, .int .i64 R.height, vp, vs, .bool R.falls, .bool R.keeps, ve, .int .i64 R.blocked, .int .i64 R.quiet, .int .i64 R.rept] 26)).alloc (.cells #[.slice ac p.cells.length cc, v0, v1, .int .i64 p.turn, .int .i64 p.quiet] 43)) = w0 at *
  have HCw := Lib.hid (HC.out.below HB.out (Nat.le_refl _))
  have r1 : w0.cell? ⟨w.heap.size, 1, none⟩ = some (.int .i64 R.width) := B0.cell 1 rfl
  have p0 : w0.cell? ⟨w.heap.size + 1, 0, none⟩ = some (.slice ac p.cells.length cc) := B1.cell 0 rfl
  obtain ⟨g, o, rfl, hcell⟩ := cells_rd HCw.out (by omega)
  have HCell := Lib.hid hcell
  clear hcell B0 B1
  go_wp2_with fail
  go_loop [2] (fun i => ∃ (k : Nat) (t : Int), i = .int .i64 t ∧ Hid (t = (s : Int) - (((k + 1) * W : Nat) : Int)) ∧ Hid (k ≤ s / W) ∧ Hid (filledZ R.width.toNat p.cells s = ((List.range (s / W)).drop k).all (fun k => p.cells.getD (s - (k + 1) * W) 0 != 0)) ∧ -8 ≤ t ∧ t ≤ 64) (fun i => (intOf i + 8).toNat)
  case atStart => exact ⟨0, _, rfl, Lib.hid (by rw [HW.out]; simp), Lib.hid (Nat.zero_le _), HF, by omega, by omega⟩
  case round =>
    obtain ⟨k, t, rfl, HT, HK, HFk, ht1, ht2⟩ := hrel
    by_cases hk : k < s / W
    · have hkw : (k + 1) * W ≤ s := Nat.le_trans (Nat.mul_le_mul_right W hk) HD.out.1
      have ht0 : 0 ≤ t := by have := HT.out; omega
      have hts : t.toNat = s - (k + 1) * W := by have := HT.out; omega
      have hcl : w0.cell? ⟨g, o + t.toNat, none⟩ = some (.int .i64 (p.cells.getD t.toNat 0)) := HCell.out _ (by omega)
      have HST : Hid (filledZ R.width.toNat p.cells s = (p.cells.getD t.toNat 0 != 0 && ((List.range (s / W)).drop (k + 1)).all (fun k => p.cells.getD (s - (k + 1) * W) 0 != 0))) := Lib.hid (by rw [HFk.out, filled_at _ _ _ _ hk, hts])
      have hlt : t < p.cells.length := by omega
      have HT2 : Hid (t - R.width = (s : Int) - (((k + 1 + 1) * W : Nat) : Int)) := Lib.hid (by rw [HT.out, HW.out, Nat.add_mul (k + 1) 1 W, Nat.one_mul]; omega)
      have hkk := Lib.hid hk
      clear hkw hts hk
      generalize p.cells.getD t.toNat 0 = c at *
      by_cases hc0 : c = 0
      · subst hc0
        have HE : Hid (filledZ R.width.toNat p.cells s = false) := Lib.hid (by rw [HST.out]; rfl)
        go_wp2_with fail
        go_ret
        exact ⟨by rw [HE.out]; rfl, HB.out⟩
      · have HE : Hid (filledZ R.width.toNat p.cells s = ((List.range (s / W)).drop (k + 1)).all (fun k => p.cells.getD (s - (k + 1) * W) 0 != 0)) := Lib.hid (by rw [HST.out, show (c != 0) = true by simpa using hc0, Bool.true_and])
        go_wp2_with fail
        go_round
        case rel => exact ⟨k + 1, _, rfl, HT2, Lib.hid (by have := hkk.out; omega), HE, by omega, by omega⟩
        case measure => simp [intOf]; omega
    · have ht0 : t < 0 := by
        have e : k = s / W := by have := HK.out; omega
        have h1 := HD.out.2
        rw [← e] at h1
        have := HT.out
        omega
      have HE : Hid (filledZ R.width.toNat p.cells s = true) := Lib.hid (by rw [HFk.out, List.drop_of_length_le (by simp; omega)]; rfl)
      clear hk
      go_wp2_with fail
      go_ret
      exact ⟨by rw [HE.out]; rfl, HB.out⟩

end Go.Proofs.Ytnieifdogllbfaa
