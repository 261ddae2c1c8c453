/- A slice of integers that came in as an argument. -/
import Derived.Test.YtjgnjahnfglbaaaIntsB
import Derived.Test.YtjgnjahnfglbaaaSub
import Derived.ChangeSlices
namespace Go.Proofs.Ytjgnjahnfglbaaa
open Go.ChangeShapes Go.WideShapes Go.ChangeAt Go.RowKit
set_option linter.unusedVariables false
section
variable {H : Type} {enc : TypeId × Value → H} {P : Program} {W : World} {r : Reach} {base : Nat} {t e : TypeId} {v : Value} {d : DataW H} {p : List MemPlace}
theorem okWide_spot (hu : P.underlying t = some (.slice e)) (hv : Value.okWide P W r base t v) : (∃ c, v = .slice none 0 0 ∧ c = 0) ∨ ∃ g o len cap, v = .slice (some ⟨g, o, none⟩) len cap := by
  simp only [Value.okWide, hu, Cell.okWide, Cell.ok] at hv
  split at hv <;> simp_all
  rename_i a len cap _
  obtain ⟨g, o, s⟩ := a
  have := hv.2.2.2.1
  simp at this
  subst this
  exact ⟨g, o, rfl⟩
theorem open_RdI (hu : P.underlying t = some (.slice e)) (he : P.underlying e = some (.int .i64)) (hc : P.cellsOf e = 1) (hv : Value.okWide P W r base t v)
    (h : DataW.Trod enc P W 0 (fun _ => true) true t v d p) : ∃ zs, RdI W v zs ∧ ∀ z ∈ zs, (Lit.int .i64 z).wf = true := by
  obtain ⟨fuel, hf⟩ := h
  rcases okWide_spot hu hv with ⟨_, rfl, _⟩ | ⟨g, o, len, cap, rfl⟩
  · exact ⟨[], Rd.nil _ _, by simp⟩
  · rcases open_ints hu he hc hf with ⟨hcs, _⟩ | ⟨a, len', cap', zs, hcs, _, hl, hm, hz, _, hcell, hwz⟩
    · simp [Value.cells] at hcs
    · simp [Value.cells] at hcs
      obtain ⟨rfl, rfl, rfl⟩ := hcs
      simp only [if_true] at hz
      refine ⟨zs.take len, ⟨by simp [ints], .inr ⟨g, o, cap, by simp [hz, hl], by simp [hz, hl], hm, fun i hi => ?_⟩⟩, fun z hzm => hwz z (List.mem_of_mem_take hzm)⟩
      have hi' : i < len := by simp at hi; omega
      have := hcell i (by omega)
      rw [add_off] at this
      rw [this, ints_get _ i (by simp; omega)]
      congr 2
      simp [List.getD, hi']
end
end Go.Proofs.Ytjgnjahnfglbaaa
