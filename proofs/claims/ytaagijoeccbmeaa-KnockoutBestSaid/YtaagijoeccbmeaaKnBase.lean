/- The contracts of knockout.Seeds and of the law's own helper brackets; a slice of integers opened. -/
import Derived.Test.YtaagijoeccbmeaaKnPlay2
import Derived.Test.YtaagijoeccbmeaaFrame
import Derived.ChangeSlices
namespace Go.Proofs.Ytaagijoeccbmeaa
open Go.ChangeShapes Go.WideShapes Go.ChangeAt Go.RowKit
set_option linter.unusedVariables false

theorem Seeds_ok (n : Nat) (w : World) (h0 : 2 ≤ n) (h1 : n ≤ 32) :
    Calls Try.prog 9 #[.int .i64 n] w fun e w' => ∃ v, e = .returned (.tuple #[v, .int .i64 0]) ∧ w'.ownsRow w.heap.size 3 1 v (seedsZ n).length (ints (seedsZ n)) ∧ Below w.heap.size w w' := by
  go_enter Try.func9, Try.ntmps9
  go_wp2_with fail
  refine (Check_ok n w (by omega) (by omega)).mono ?_
  rintro e w' ⟨rfl, rfl⟩
  go_wp2_with fail
  refine (seeds_any n w h0 h1).mono ?_
  rintro e w1 ⟨v, rfl, ho, hb⟩
  have HO := Lib.hid ho
  clear ho
  go_wp2
  go_ret2
  exact ⟨v, rfl, HO.out, hb⟩

theorem brackets_any (w : World) : Calls Try.prog 5 #[] w fun e w' => e = .returned (.bool true) ∧ Below w.heap.size w w' := by
  have hz : seedsZ 2 = [0, 1] := by decide +kernel
  have HS := Lib.hid (Seeds_ok 2 w (by omega) (by omega))
  rw [hz] at HS
  clear hz
  go_enter Try.func5, Try.ntmps5
  go_wp2_with fail
  refine HS.out.mono ?_
  rintro e w1 ⟨v, rfl, ho, hb⟩
  obtain ⟨g, c, rfl⟩ := own_some ho (by simp)
  have c0 : w1.cell? ⟨g, 0, none⟩ = some (.int .i64 0) := ho.cellAt 0 (by simp)
  have c1 : w1.cell? ⟨g, 1, none⟩ = some (.int .i64 1) := ho.cellAt 1 (by simp)
  clear ho
  simp only [List.length_cons, List.length_nil]
  go_wp2
  go_ret
  exact ⟨rfl, hb⟩

section
variable {H : Type} {enc : TypeId × Value → H} {P : Program} {W : World} {r : Reach} {base : Nat} {t e : TypeId} {v : Value} {d : DataW H} {p : List MemPlace}
theorem okWide_spot (hu : P.underlying t = some (.slice e)) (hv : Value.okWide P W r base t v) : (∃ c, v = .slice none 0 0 ∧ c = 0) ∨ ∃ g o len cap, v = .slice (some ⟨g, o, none⟩) len cap := by
  simp only [Value.okWide, hu, Cell.okWide, Cell.ok] at hv
  split at hv <;> simp_all
  rename_i a len cap _
  obtain ⟨g, o, s⟩ := a
  have := hv.2.2.2.1
  simp at this
  subst this
  exact ⟨g, o, rfl⟩
theorem open_RdI (hu : P.underlying t = some (.slice e)) (he : P.underlying e = some (.int .i64)) (hc : P.cellsOf e = 1) (hv : Value.okWide P W r base t v)
    (h : DataW.Trod enc P W 0 (fun _ => true) true t v d p) : ∃ zs, RdI W v zs ∧ ∀ z ∈ zs, (Lit.int .i64 z).wf = true := by
  obtain ⟨fuel, hf⟩ := h
  rcases okWide_spot hu hv with ⟨_, rfl, _⟩ | ⟨g, o, len, cap, rfl⟩
  · exact ⟨[], Rd.nil _ _, by simp⟩
  · rcases open_ints hu he hc hf with ⟨hcs, _⟩ | ⟨a, len', cap', zs, hcs, _, hl, hm, hz, _, hcell, hwz⟩
    · simp [Value.cells] at hcs
    · simp [Value.cells] at hcs
      obtain ⟨rfl, rfl, rfl⟩ := hcs
      simp only [if_true] at hz
      refine ⟨zs.take len, ⟨by simp [ints], .inr ⟨g, o, cap, by simp [hz, hl], by simp [hz, hl], hm, fun i hi => ?_⟩⟩, fun z hzm => hwz z (List.mem_of_mem_take hzm)⟩
      have hi' : i < len := by simp at hi; omega
      have := hcell i (by omega)
      rw [add_off] at this
      rw [this, ints_get _ i (by simp; omega)]
      congr 2
      simp [List.getD, hi']
end
end Go.Proofs.Ytaagijoeccbmeaa
