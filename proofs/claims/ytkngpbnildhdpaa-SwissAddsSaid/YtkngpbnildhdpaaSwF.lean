/- keep3.swisses: two players meet. -/
import Derived.Test.YtkngpbnildhdpaaSwC
import Derived.BigQuiet
import Derived.Deep.Cut
import Derived.Deep.QuietTactic
namespace Go.Proofs.Ytkngpbnildhdpaa
open Go.ChangeShapes Go.WideShapes Go.ChangeAt Go.RowKit
set_option linter.unusedVariables false

theorem info_swp : (Try.prog.info? 32).map (fun i => (i.zero, i.size, i.bytes)) = some (some (.agg #[.int .i64 0, .slice none 0 0, .int .i64 0, .bool false]), 4, 48) := by kernel_rfl
theorem made_two : (madeCells (Value.cells (.agg #[.int .i64 0, .slice none 0 0, .int .i64 0, .bool false])) (2 * 4)).toList = [.int .i64 0, .slice none 0 0, .int .i64 0, .bool false, .int .i64 0, .slice none 0 0, .int .i64 0, .bool false] := by kernel_rfl
theorem two_read {w : World} {b : Nat} {v : Value} (h : w.ownsRow b 32 4 v 2 [.int .i64 0, .slice none 0 0, .int .i64 0, .bool false, .int .i64 0, .slice none 0 0, .int .i64 0, .bool false]) : RdS w v newTwo :=
  RdL.of_own (el := swEl) (xs := newTwo) h (fun i hi => by
    match i, hi with
    | 0, _ => exact ⟨.slice none 0 0, rfl, Rd.nil _ _⟩
    | 1, _ => exact ⟨.slice none 0 0, rfl, Rd.nil _ _⟩)
theorem small_two (i : Nat) (h : i < 2) : Small (plAt newTwo i) ∧ (plAt newTwo i).opp = [] := by
  match i, h with
  | 0, _ => exact ⟨⟨⟨by decide, by decide⟩, by decide, by decide⟩, rfl⟩
  | 1, _ => exact ⟨⟨⟨by decide, by decide⟩, by decide, by decide⟩, rfl⟩
theorem met_two (i : Nat) (h : i < 2) (j : Int) : metN newTwo i j = 0 := by unfold metN; rw [(small_two i h).2]; rfl
theorem says_two (c : Int) (h : ChkSays newTwo c) : c = 0 := by
  rcases h with ⟨h, -⟩ | ⟨-, h⟩ | ⟨-, i, hi, h⟩ | ⟨-, h⟩ | ⟨-, i, hi, j, hj, h⟩
  · exact h
  · exfalso
    rcases h with h | ⟨i, hi, h⟩
    · exact h ⟨by decide, by decide⟩
    · rw [(small_two i hi).2] at h; simp at h
  · exact absurd (small_two i hi).1 h
  · exfalso
    rcases h with ⟨i, hi, h⟩ | ⟨i, hi, j, hj, h⟩
    · rw [(small_two i hi).2] at h; simp at h
    · have hi2 : i < 2 := hi
      rw [met_two i hi2, met_two j (by omega)] at h; exact h rfl
  · have hi2 : i < 2 := hi
    rw [met_two i hi2] at h; omega
theorem out_two : outZ newTwo [1, 0] 2 = [(0, 1)] ∧ offZ 2 [1, 0] 2 = -1 := by constructor <;> decide +kernel

theorem Pair_two (s : Value) (w : World) (h : RdS w s newTwo) : Calls Try.prog 7 #[s] w fun e w' => Below w.heap.size w w' ∧ ∃ a c, e = .returned (.tuple #[.slice a 1 c, .int .i64 0, .int .i64 (-1), .int .i64 0]) := by
  refine (Pair_any s newTwo w h).mono fun e w' ⟨hb, hp⟩ => ⟨hb, ?_⟩
  rcases hp with ⟨c, hc, hs, -⟩ | ⟨-, h, -⟩ | ⟨-, W, v, h, -, hr, rfl⟩
  · exact absurd (says_two c hs) hc
  · rw [pair_two] at h; cases h
  · rw [pair_two] at h
    cases h
    rw [show newTwo.length = 2 from rfl, out_two.1] at hr
    rw [show newTwo.length = 2 from rfl, out_two.2, pair_two]
    obtain ⟨a, c, rfl, -, -⟩ := hr.form
    exact ⟨a, c, rfl⟩
set_option maxRecDepth 100000 in
set_option maxHeartbeats 4000000 in
theorem swisses_any (w : World) : Calls Try.prog 6 #[] w fun e w' => e = .returned (.bool true) ∧ Below w.heap.size w w' := by
  obtain ⟨i0, hi, hz0, hz1, hz2⟩ := info_parts info_swp
  go_enter Try.func6, Try.ntmps6
  go_wp2_with (at_make; refine wpList_make_full _ rfl _ _ 22 rfl w.heap.size 32 i0 (.agg #[.int .i64 0, .slice none 0 0, .int .i64 0, .bool false]) 4 Try.underlying22 hi hz0 hz1 .i64 .i64 2 2 2 rfl rfl rfl rfl (by rw [hz2]; omega) (by unfold maxLen; omega) (Nat.le_refl _) ?_; intro w1 hown hgrow)
  rw [made_two] at hown
  have HR := Lib.hid (two_read hown)
  have HB := Lib.hid (Below.grown (Below.refl _ w) hgrow (Nat.le_refl _) (fun q hq => by cases hq))
  clear hown hgrow
  refine (Pair_two _ _ HR.out).mono ?_
  rintro e w2 ⟨hb, a, c, rfl⟩
  have HB2 := Lib.hid (HB.out.trans (hb.mono HB.out.size))
  clear hb
  go_wp2_with fail
  go_ret
  exact ⟨rfl, HB2.out⟩
end Go.Proofs.Ytkngpbnildhdpaa
